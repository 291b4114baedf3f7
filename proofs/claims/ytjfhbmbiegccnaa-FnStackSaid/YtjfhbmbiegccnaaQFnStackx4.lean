/- Walks of the functions that the law reaches, a contract for each (written by a program, after the kit's print, with the functions whose contracts are proved by hand). No conditions but those typed. -/
import Derived.Test.YtjfhbmbiegccnaaQFnStackx0
import Derived.Test.YtjfhbmbiegccnaaQFnStackx1
import Derived.Test.YtjfhbmbiegccnaaQFnStackx2
import Derived.Test.YtjfhbmbiegccnaaQFnStackx3
namespace Go.Proofs.Ytjfhbmbiegccnaa.QFnStack
open Go.RowKit Go.Proofs.YtjfhbmbiegccnaaW.PrintWords Go.Proofs.YtjfhbmbiegccnaaW.PrintLast Go.Proofs.YtjfhbmbiegccnaaW.PrintMore
attribute [local go_sem] max2_int min2_int max_two min_two max_three min_three max_four min_four   -- for this text's walks alone
set_option linter.unusedVariables false
set_option linter.unusedSimpArgs false

/-! ### impl_StackPush: function 53 -/
mutual
def impl_StackPush.j0 : Nat → List Int → Bool → List Int → List (List Int) → Option (List Int × (List (List Int)) × Bool)
 | 0, _, _, _, _ => none
 | k + 1, x1, x16, x188000, x188001 => if x16 = true then (some (([] : List Int), ([] : List (List Int)), false)) else ((some (([] : List Int) : List Int)).bind fun y194 => (if y194.length + x188000.length < 17592186044416 then ((some (y194 ++ x188000 : List Int)).bind fun y197 => ((some (([0] : List Int) : List Int)).bind fun y200 => (if y197.length + y200.length < 17592186044416 then ((some (y197 ++ y200 : List Int)).bind fun y203 => ((impl_copyList.f k x188001).bind fun t206 => ((impl_copyBytes.f x1).bind fun t209 => ((some (([t209] : List (List Int)) : List (List Int))).bind fun y212 => (if t206.length + y212.length < 5864062014805 then (impl_StackPush.l0 k (y203.length : Int) y203 (t206 ++ y212)) else (none)))))) else (none)))) else (none)))
def impl_StackPush.l0 : Nat → Int → List Int → List (List Int) → Option (List Int × (List (List Int)) × Bool)
 | 0, _, _, _ => none
 | k + 1, x7, x219000, x219001 => if x7 > 1 then (if 0 ≤ (wrap64 (x7 - 1)) then (if (wrap64 (x7 - 1)) < (x219000.length : Int) then (if 0 ≤ (wrap64 (x7 - 2)) then (if (wrap64 (x7 - 2)) < (x219000.length : Int) then (if (rd x219000 (wrap64 (x7 - 1))) = (rd x219000 (wrap64 (x7 - 2))) then (if (wrap64 (x7 - 2)) < (x219001.length : Int) then (if (wrap64 (x7 - 1)) < (x219001.length : Int) then ((impl_NodeHash.f k (rd_L2 x219001 (wrap64 (x7 - 2))) (rd_L2 x219001 (wrap64 (x7 - 1)))).bind fun t223 => (if (wrap64 (x7 - 1)) ≤ (x219000.length : Int) then (if (wrap64 (x7 - 1)) ≤ (x219001.length : Int) then (impl_StackPush.l0 k (wrap64 (x7 - 1)) ((x219000.set ((wrap64 (x7 - 2)) : Int).toNat (wrap64 ((rd x219000 (wrap64 (x7 - 2))) + 1))).take ((wrap64 (x7 - 1)) : Int).toNat) ((x219001.set ((wrap64 (x7 - 2)) : Int).toNat t223).take ((wrap64 (x7 - 1)) : Int).toNat)) else (none)) else (none))) else (none)) else (none)) else ((impl_StackOk.f k x219000 x219001).bind fun t235 => (if t235 = true then (some (x219000, x219001, true)) else (some (([] : List Int), ([] : List (List Int)), false))))) else (none)) else (none)) else (none)) else (none)) else ((impl_StackOk.f k x219000 x219001).bind fun t236 => (if t236 = true then (some (x219000, x219001, true)) else (some (([] : List Int), ([] : List (List Int)), false))))
end
def impl_StackPush.f (k : Nat) (l0_0 : List Int) (l0_1 : List (List Int)) (l1 : List Int) : Option (List Int × (List (List Int)) × Bool) := (impl_StackOk.f k l0_0 l0_1).bind fun t189 => (if t189 = true then ((impl_areHashes.f k (([l1] : List (List Int)))).bind fun t193 => (impl_StackPush.j0 k l1 (!t193) l0_0 l0_1)) else (impl_StackPush.j0 k l1 true l0_0 l0_1))
theorem impl_StackPush.mono_l : ∀ k, (∀ y0 y1 y2 y3, LeO (impl_StackPush.j0 k y0 y1 y2 y3) (impl_StackPush.j0 (k + 1) y0 y1 y2 y3)) ∧ (∀ y0 y1 y2, LeO (impl_StackPush.l0 k y0 y1 y2) (impl_StackPush.l0 (k + 1) y0 y1 y2))
 | 0 => ⟨fun _ _ _ _ r h => by simp [impl_StackPush.j0] at h, fun _ _ _ r h => by simp [impl_StackPush.l0] at h⟩
 | k + 1 => by
  obtain ⟨ih0, ih1⟩ := impl_StackPush.mono_l k
  refine ⟨?_, ?_⟩
  ·
   intro y0 y1 y2 y3
   unfold impl_StackPush.j0
   repeat' first
   | (with_reducible exact ih0 _ _ _ _)
   | (with_reducible exact ih1 _ _ _)
   | (with_reducible exact impl_NodeHash.mono _ _ _)
   | (with_reducible exact impl_StackOk.mono _ _ _)
   | (with_reducible exact impl_areHashes.mono _ _)
   | (with_reducible exact impl_copyList.mono _ _)
   | (with_reducible exact LeO.refl _)
   | (with_reducible exact LeO.none _)
   | (with_reducible refine LeO.ite ?_ ?_)
   | (with_reducible refine LeO.bind ?_ (fun _ => ?_))
   | exact ih0 _ _ _ _
   | exact ih1 _ _ _
   | exact impl_NodeHash.mono _ _ _
   | exact impl_StackOk.mono _ _ _
   | exact impl_areHashes.mono _ _
   | exact impl_copyList.mono _ _
   | exact LeO.none _
   | refine LeO.ite ?_ ?_
   | refine LeO.bind ?_ (fun _ => ?_)
  ·
   intro y0 y1 y2
   unfold impl_StackPush.l0
   repeat' first
   | (with_reducible exact ih0 _ _ _ _)
   | (with_reducible exact ih1 _ _ _)
   | (with_reducible exact impl_NodeHash.mono _ _ _)
   | (with_reducible exact impl_StackOk.mono _ _ _)
   | (with_reducible exact impl_areHashes.mono _ _)
   | (with_reducible exact impl_copyList.mono _ _)
   | (with_reducible exact LeO.refl _)
   | (with_reducible exact LeO.none _)
   | (with_reducible refine LeO.ite ?_ ?_)
   | (with_reducible refine LeO.bind ?_ (fun _ => ?_))
   | exact ih0 _ _ _ _
   | exact ih1 _ _ _
   | exact impl_NodeHash.mono _ _ _
   | exact impl_StackOk.mono _ _ _
   | exact impl_areHashes.mono _ _
   | exact impl_copyList.mono _ _
   | exact LeO.none _
   | refine LeO.ite ?_ ?_
   | refine LeO.bind ?_ (fun _ => ?_)
theorem impl_StackPush.mono : ∀ a0 a1 a2 k, LeO (impl_StackPush.f k a0 a1 a2) (impl_StackPush.f (k + 1) a0 a1 a2) := by
 intro a0 a1 a2 k
 obtain ⟨ih0, ih1⟩ := impl_StackPush.mono_l k
 unfold impl_StackPush.f
 repeat' first
   | (with_reducible exact ih0 _ _ _ _)
   | (with_reducible exact ih1 _ _ _)
   | (with_reducible exact impl_NodeHash.mono _ _ _)
   | (with_reducible exact impl_StackOk.mono _ _ _)
   | (with_reducible exact impl_areHashes.mono _ _)
   | (with_reducible exact impl_copyList.mono _ _)
   | (with_reducible exact LeO.refl _)
   | (with_reducible exact LeO.none _)
   | (with_reducible refine LeO.ite ?_ ?_)
   | (with_reducible refine LeO.bind ?_ (fun _ => ?_))
   | exact ih0 _ _ _ _
   | exact ih1 _ _ _
   | exact impl_NodeHash.mono _ _ _
   | exact impl_StackOk.mono _ _ _
   | exact impl_areHashes.mono _ _
   | exact impl_copyList.mono _ _
   | exact LeO.none _
   | refine LeO.ite ?_ ?_
   | refine LeO.bind ?_ (fun _ => ?_)
def impl_StackPush.T3 : Bool × List (List Nat × List Nat) := (true, [([], []), ([], []), ([1], [1]), ([0, 2], [0, 2]), ([], []), ([3, 4, 3], [3, 4]), ([], []), ([6], [6]), ([7, 5], [7]), ([], []), ([9, 8], [9]), ([10], [10]), ([8, 11, 10], [8, 11]), ([5, 12], [5, 12]), ([], []), ([14, 13, 12, 0, 1, 2, 3, 4, 5, 6, 7, 8, 9, 10, 11, 12, 13, 14], [13, 14])])
def impl_StackPush.B3 : List Nat := [0, 0, 2, 7, 0, 31, 0, 64, 255, 0, 1023, 2047, 4095, 8191, 0, 32767]
theorem impl_StackPush.tab3 : rtab .any (opsOf Try.f53 3) = impl_StackPush.T3 := by kernel_rfl
theorem impl_StackPush.bits3 : waitsOk impl_StackPush.T3.2 impl_StackPush.B3 = true := by kernel_rfl
def impl_StackPush.T5 : Bool × List (List Nat × List Nat) := (true, [([], []), ([0], [0]), ([1], [1]), ([2], [2]), ([3, 2], [2, 3]), ([2], [2]), ([5, 2], [2, 5]), ([4, 6, 2], [2, 4, 6]), ([7, 2], [2, 7]), ([2], [2]), ([9, 2], [2, 9]), ([2], [2]), ([11, 2], [2, 11]), ([10, 12, 2], [2, 10, 12]), ([13, 2], [2, 13]), ([8, 14, 2], [2, 8, 14]), ([2, 15], [2, 15])])
def impl_StackPush.B5 : List Nat := [0, 1, 3, 7, 15, 7, 39, 127, 255, 7, 519, 7, 2055, 7687, 15879, 32767, 65535]
theorem impl_StackPush.tab5 : rtab .any (opsOf Try.f53 5) = impl_StackPush.T5 := by kernel_rfl
theorem impl_StackPush.bits5 : waitsOk impl_StackPush.T5.2 impl_StackPush.B5 = true := by kernel_rfl
def impl_StackPush.T7 : Bool × List (List Nat × List Nat) := (true, [([], []), ([0], [0]), ([], []), ([2], [2]), ([], []), ([4], [4]), ([], []), ([6], [6]), ([5, 7], [5, 7]), ([8], [8]), ([], []), ([10], [10]), ([], []), ([12], [12]), ([11, 13], [11, 13]), ([14], [14]), ([9, 15], [9, 15]), ([1, 3, 0, 1, 2, 3, 4, 5, 6, 7, 8, 9, 10, 11, 12, 13, 14, 15, 16], [1, 3]), ([17, 16, 16, 0, 1, 2, 3, 4, 5, 6, 7, 8, 9, 10, 11, 12, 13, 14, 15, 16], [16, 17])])
def impl_StackPush.B7 : List Nat := [0, 1, 0, 4, 0, 16, 0, 64, 240, 496, 0, 1024, 0, 4096, 15360, 31744, 65520, 131071, 262143]
theorem impl_StackPush.tab7 : rtab .any (opsOf Try.f53 7) = impl_StackPush.T7 := by kernel_rfl
theorem impl_StackPush.bits7 : waitsOk impl_StackPush.T7.2 impl_StackPush.B7 = true := by kernel_rfl
def impl_StackPush.T9 : Bool × List (List Nat × List Nat) := (true, [([], []), ([0], [0]), ([], []), ([2], [2]), ([1, 3], [1, 3]), ([], []), ([5], [5]), ([], []), ([7], [7]), ([6, 8], [6, 8]), ([0, 1, 2, 3, 4, 5, 6], []), ([10, 4, 0, 1, 2, 3, 4, 5, 6], [4, 10]), ([0, 1, 2, 3, 4, 5, 6, 7, 8, 9, 10, 11], []), ([12, 9, 11, 0, 1, 2, 3, 4, 5, 6, 7, 8, 9, 10, 11], [9, 12])])
def impl_StackPush.B9 : List Nat := [0, 1, 0, 4, 15, 0, 32, 0, 128, 480, 127, 1151, 4095, 8191]
theorem impl_StackPush.tab9 : rtab .any (opsOf Try.f53 9) = impl_StackPush.T9 := by kernel_rfl
theorem impl_StackPush.bits9 : waitsOk impl_StackPush.T9.2 impl_StackPush.B9 = true := by kernel_rfl
theorem of_d {w w' : World} (h : Drawn0 w w') : Below w.heap.size w w' := by
 obtain ⟨nd, rfl⟩ := h
 exact pw_below_drewN (Below.refl _ _) nd
/-- A row put into a slice of its own, read. -/
theorem lit_C {w : World} {A : Option Addr} {c : Nat} {l : List Int} (h : Kd.C (Kd.int .u8) w A l.length l) (hc : l.length ≤ c) : Kd.C (Kd.slice 5 (Kd.int .u8)) (w.alloc (.cells #[.slice A l.length c] 23 (0, 0))) (some ⟨w.heap.size, 0, none⟩) 1 [l] := by
 refine ⟨rfl, by decide, fun _ => ⟨⟨w.heap.size, 0, none⟩, rfl, fun j q hj => ?_⟩⟩
 cases j with
 | zero =>
  obtain rfl : l = q := by simpa using hj
  refine ⟨[.slice A l.length c], rfl, ⟨A, c, rfl, hc, Kd.C_below h (below_alloc (Below.refl _ _) _)⟩, fun i y hi => ?_⟩
  cases i with
  | zero =>
   obtain rfl : Value.slice A l.length c = y := by simpa using hi
   exact (blk_cell (t := 23) (blk_new w (.cells #[.slice A l.length c] 23 (0, 0))) 0).trans rfl
  | succ i => simp at hi
 | succ j => simp at hj
set_option maxHeartbeats 8000000 in
set_option maxRecDepth 100000 in
theorem push_no1 (k : Nat) (A0 : Option Addr) (c0 : Nat) (l0 : List Int) (A1 : Option Addr) (c1 : Nat) (l1 : List (List Int)) (A2 : Option Addr) (c2 : Nat) (l2 : List Int) (w : World) (hr0 : Kd.C (Kd.int .i64) w A0 l0.length l0) (hc0 : l0.length ≤ c0) (hr1 : Kd.C (Kd.slice 5 (Kd.int .u8)) w A1 l1.length l1) (hc1 : l1.length ≤ c1) (hr2 : Kd.C (Kd.int .u8) w A2 l2.length l2) (hc2 : l2.length ≤ c2)
  (e1 : impl_StackOk.f k l0 l1 = some false) :
  Calls Try.prog 53 #[.agg #[.slice A0 l0.length c0, .slice A1 l1.length c1], .slice A2 l2.length c2] w fun e w' => ∃ v0_ v1_ : Value, e = .returned (.tuple #[.agg #[v0_, v1_], .bool false]) ∧ Kd.R (Kd.int .i64) 3 w' w.heap.size (fun k_ => (w.heap.size ≤ k_)) v0_ [] ∧ Kd.S (Kd.slice 5 (Kd.int .u8)) 23 w' w.heap.size (fun k_ => (w.heap.size ≤ k_) ∧ some k_ ≠ (v0_ : Value).ownBlock) v1_ [] ∧ Below w.heap.size w w' := by
 have hu50 := Try.underlying50
 have HR0 := Aside0.mk hr0
 have HC0 := Aside0.mk hc0
 have HR1 := Aside0.mk hr1
 have HC1 := Aside0.mk hc1
 have HR2 := Aside0.mk hr2
 have HC2 := Aside0.mk hc2
 have E1 := Aside0.mk e1
 clear hr0 hc0 hr1 hc1 hr2 hc2 e1
 have HB := Aside0.mk (Below.refl w.heap.size w)
 go_enter Try.func53, Try.ntmps53
 go_wp2_with (first | ((with_reducible refine gate_dst (N := 2) rfl ?_); refine box_event ?hg (N := 2) ?hd (cs := #[.slice A0 l0.length c0, .slice A1 l1.length c1]) (t := 50) ?hr ?_; (case hd => rfl); (case hg => rfl); (case hr => first | (go_simp; done) | (go_simp; rfl)); intro g2 hg wa hbox hb; have BK2 := Aside0.mk hbox; have G2 : Aside0 (w.heap.size ≤ g2) := ⟨by rw [hg]; exact below_size HB.out⟩; clear hbox hg; have nB := Aside0.mk (below_step HB.out hb); clear HB; have HB := nB; clear nB; clear hb) | ((with_reducible refine gate_dst (N := 4) rfl ?_); refine box_event ?hg (N := 4) ?hd (cs := #[.slice none 0 0, .slice none 0 0]) (t := 50) ?hr ?_; (case hd => rfl); (case hg => rfl); (case hr => first | (go_simp; done) | (go_simp; rfl)); intro g4 hg wb hbox hb; have G24 : Aside0 (g2 ≠ g4) := ⟨by rw [hg]; exact Nat.ne_of_lt (blk_lt BK2.out)⟩; have G42 : Aside0 (g4 ≠ g2) := ⟨fun e => G24.out e.symm⟩; have BK4 := Aside0.mk hbox; have G4 : Aside0 (w.heap.size ≤ g4) := ⟨by rw [hg]; exact below_size HB.out⟩; clear hbox hg; have n_2 := Aside0.mk (blk_below BK2.out hb); clear BK2; have BK2 := n_2; clear n_2; have nB := Aside0.mk (below_step HB.out hb); clear HB; have HB := nB; clear nB; clear hb; have hn24 := G24.out; have hn42 := G42.out; have hc2_0 : wb.cell? ⟨g2, 0, none⟩ = some (.slice A0 l0.length c0) := (blk_cell BK2.out 0).trans rfl; have hc2_1 : wb.cell? ⟨g2, 1, none⟩ = some (.slice A1 l1.length c1) := (blk_cell BK2.out 1).trans rfl; have hf2_0 := blk_frozen BK2.out 0; have hf2_1 := blk_frozen BK2.out 1; have hc4_0 : wb.cell? ⟨g4, 0, none⟩ = some (.slice none 0 0) := (blk_cell BK4.out 0).trans rfl; have hc4_1 : wb.cell? ⟨g4, 1, none⟩ = some (.slice none 0 0) := (blk_cell BK4.out 1).trans rfl; have hf4_0 := blk_frozen BK4.out 0; have hf4_1 := blk_frozen BK4.out 1) | (go_at_call 54; refine (impl_StackOk.calls k _ _ l0 _ _ l1 false _ (Kd.C_below HR0.out HB.out) HC0.out (Kd.C_below HR1.out HB.out) HC1.out E1.out).mono ?_; rintro e wc ⟨rfl, hb⟩; clear hc2_0 hc2_1 hf2_0 hf2_1; clear hc4_0 hc4_1 hf4_0 hf4_1; have n_2 := Aside0.mk (blk_below BK2.out hb); clear BK2; have BK2 := n_2; clear n_2; have n_4 := Aside0.mk (blk_below BK4.out hb); clear BK4; have BK4 := n_4; clear n_4; have nB := Aside0.mk (below_step HB.out hb); clear HB; have HB := nB; clear nB; clear hb; have hc2_0 : wc.cell? ⟨g2, 0, none⟩ = some (.slice A0 l0.length c0) := (blk_cell BK2.out 0).trans rfl; have hc2_1 : wc.cell? ⟨g2, 1, none⟩ = some (.slice A1 l1.length c1) := (blk_cell BK2.out 1).trans rfl; have hf2_0 := blk_frozen BK2.out 0; have hf2_1 := blk_frozen BK2.out 1; have hc4_0 : wc.cell? ⟨g4, 0, none⟩ = some (.slice none 0 0) := (blk_cell BK4.out 0).trans rfl; have hc4_1 : wc.cell? ⟨g4, 1, none⟩ = some (.slice none 0 0) := (blk_cell BK4.out 1).trans rfl; have hf4_0 := blk_frozen BK4.out 0; have hf4_1 := blk_frozen BK4.out 1))
 refine bodyPost_ret (results_ct rfl _ _ g4 50 #[.slice none 0 0, .slice none 0 0] (0, 0) _ rfl (blk_put (cs := #[.slice none 0 0, .slice none 0 0]) (blk_put (cs := #[.slice none 0 0, .slice none 0 0]) (BK4.out) 0 _ rfl) 1 _ rfl) Try.underlying50 rfl (by kernel_rfl)) rfl ?_
 exact ⟨_, _, rfl, Kd.R_nil _ _ _ _ _, Kd.S_nil _ _ _ _ _, by repeat (first | exact HB.out | refine below_set ?_ G4.out | apply below_alloc)⟩
set_option maxHeartbeats 8000000 in
set_option maxRecDepth 100000 in
theorem push_no2 (k : Nat) (A0 : Option Addr) (c0 : Nat) (l0 : List Int) (A1 : Option Addr) (c1 : Nat) (l1 : List (List Int)) (A2 : Option Addr) (c2 : Nat) (l2 : List Int) (w : World) (hr0 : Kd.C (Kd.int .i64) w A0 l0.length l0) (hc0 : l0.length ≤ c0) (hr1 : Kd.C (Kd.slice 5 (Kd.int .u8)) w A1 l1.length l1) (hc1 : l1.length ≤ c1) (hr2 : Kd.C (Kd.int .u8) w A2 l2.length l2) (hc2 : l2.length ≤ c2)
  (e1 : impl_StackOk.f k l0 l1 = some true) (e2 : impl_areHashes.f k [l2] = some false) :
  Calls Try.prog 53 #[.agg #[.slice A0 l0.length c0, .slice A1 l1.length c1], .slice A2 l2.length c2] w fun e w' => ∃ v0_ v1_ : Value, e = .returned (.tuple #[.agg #[v0_, v1_], .bool false]) ∧ Kd.R (Kd.int .i64) 3 w' w.heap.size (fun k_ => (w.heap.size ≤ k_)) v0_ [] ∧ Kd.S (Kd.slice 5 (Kd.int .u8)) 23 w' w.heap.size (fun k_ => (w.heap.size ≤ k_) ∧ some k_ ≠ (v0_ : Value).ownBlock) v1_ [] ∧ Below w.heap.size w w' := by
 have hu50 := Try.underlying50
 have HR0 := Aside0.mk hr0
 have HC0 := Aside0.mk hc0
 have HR1 := Aside0.mk hr1
 have HC1 := Aside0.mk hc1
 have HR2 := Aside0.mk hr2
 have HC2 := Aside0.mk hc2
 have E1 := Aside0.mk e1
 have E2 := Aside0.mk e2
 clear hr0 hc0 hr1 hc1 hr2 hc2 e1 e2
 have HB := Aside0.mk (Below.refl w.heap.size w)
 go_enter Try.func53, Try.ntmps53
 go_wp2_with (first | ((with_reducible refine gate_dst (N := 2) rfl ?_); refine box_event ?hg (N := 2) ?hd (cs := #[.slice A0 l0.length c0, .slice A1 l1.length c1]) (t := 50) ?hr ?_; (case hd => rfl); (case hg => rfl); (case hr => first | (go_simp; done) | (go_simp; rfl)); intro g2 hg wa hbox hb; have BK2 := Aside0.mk hbox; have G2 : Aside0 (w.heap.size ≤ g2) := ⟨by rw [hg]; exact below_size HB.out⟩; clear hbox hg; have nB := Aside0.mk (below_step HB.out hb); clear HB; have HB := nB; clear nB; clear hb) | ((with_reducible refine gate_dst (N := 4) rfl ?_); refine box_event ?hg (N := 4) ?hd (cs := #[.slice none 0 0, .slice none 0 0]) (t := 50) ?hr ?_; (case hd => rfl); (case hg => rfl); (case hr => first | (go_simp; done) | (go_simp; rfl)); intro g4 hg wb hbox hb; have G24 : Aside0 (g2 ≠ g4) := ⟨by rw [hg]; exact Nat.ne_of_lt (blk_lt BK2.out)⟩; have G42 : Aside0 (g4 ≠ g2) := ⟨fun e => G24.out e.symm⟩; have BK4 := Aside0.mk hbox; have G4 : Aside0 (w.heap.size ≤ g4) := ⟨by rw [hg]; exact below_size HB.out⟩; clear hbox hg; have n_2 := Aside0.mk (blk_below BK2.out hb); clear BK2; have BK2 := n_2; clear n_2; have nB := Aside0.mk (below_step HB.out hb); clear HB; have HB := nB; clear nB; clear hb; have hn24 := G24.out; have hn42 := G42.out; have hc2_0 : wb.cell? ⟨g2, 0, none⟩ = some (.slice A0 l0.length c0) := (blk_cell BK2.out 0).trans rfl; have hc2_1 : wb.cell? ⟨g2, 1, none⟩ = some (.slice A1 l1.length c1) := (blk_cell BK2.out 1).trans rfl; have hf2_0 := blk_frozen BK2.out 0; have hf2_1 := blk_frozen BK2.out 1; have hc4_0 : wb.cell? ⟨g4, 0, none⟩ = some (.slice none 0 0) := (blk_cell BK4.out 0).trans rfl; have hc4_1 : wb.cell? ⟨g4, 1, none⟩ = some (.slice none 0 0) := (blk_cell BK4.out 1).trans rfl; have hf4_0 := blk_frozen BK4.out 0; have hf4_1 := blk_frozen BK4.out 1) | (go_at_call 54; refine (impl_StackOk.calls k _ _ l0 _ _ l1 true _ (Kd.C_below HR0.out HB.out) HC0.out (Kd.C_below HR1.out HB.out) HC1.out E1.out).mono ?_; rintro e wc ⟨rfl, hb⟩; clear hc2_0 hc2_1 hf2_0 hf2_1; clear hc4_0 hc4_1 hf4_0 hf4_1; have n_2 := Aside0.mk (blk_below BK2.out hb); clear BK2; have BK2 := n_2; clear n_2; have n_4 := Aside0.mk (blk_below BK4.out hb); clear BK4; have BK4 := n_4; clear n_4; have nB := Aside0.mk (below_step HB.out hb); clear HB; have HB := nB; clear nB; clear hb; have hc2_0 : wc.cell? ⟨g2, 0, none⟩ = some (.slice A0 l0.length c0) := (blk_cell BK2.out 0).trans rfl; have hc2_1 : wc.cell? ⟨g2, 1, none⟩ = some (.slice A1 l1.length c1) := (blk_cell BK2.out 1).trans rfl; have hf2_0 := blk_frozen BK2.out 0; have hf2_1 := blk_frozen BK2.out 1; have hc4_0 : wc.cell? ⟨g4, 0, none⟩ = some (.slice none 0 0) := (blk_cell BK4.out 0).trans rfl; have hc4_1 : wc.cell? ⟨g4, 1, none⟩ = some (.slice none 0 0) := (blk_cell BK4.out 1).trans rfl; have hf4_0 := blk_frozen BK4.out 0; have hf4_1 := blk_frozen BK4.out 1))
 go_wp2_with (first | (go_at_call 86; refine (impl_areHashes.calls k _ 1 [l2] false _ (lit_C (Kd.C_below HR2.out HB.out) HC2.out) (Nat.le_refl _) E2.out).mono ?_; rintro e wd ⟨rfl, hd⟩; clear hc2_0 hc2_1 hf2_0 hf2_1; clear hc4_0 hc4_1 hf4_0 hf4_1; have hb := below_step (below_alloc (Below.refl _ wc) _) (of_d hd); clear hd; have n_2 := Aside0.mk (blk_below BK2.out hb); clear BK2; have BK2 := n_2; clear n_2; have n_4 := Aside0.mk (blk_below BK4.out hb); clear BK4; have BK4 := n_4; clear n_4; have nB := Aside0.mk (below_step HB.out hb); clear HB; have HB := nB; clear nB; clear hb; have hc2_0 : wd.cell? ⟨g2, 0, none⟩ = some (.slice A0 l0.length c0) := (blk_cell BK2.out 0).trans rfl; have hc2_1 : wd.cell? ⟨g2, 1, none⟩ = some (.slice A1 l1.length c1) := (blk_cell BK2.out 1).trans rfl; have hf2_0 := blk_frozen BK2.out 0; have hf2_1 := blk_frozen BK2.out 1; have hc4_0 : wd.cell? ⟨g4, 0, none⟩ = some (.slice none 0 0) := (blk_cell BK4.out 0).trans rfl; have hc4_1 : wd.cell? ⟨g4, 1, none⟩ = some (.slice none 0 0) := (blk_cell BK4.out 1).trans rfl; have hf4_0 := blk_frozen BK4.out 0; have hf4_1 := blk_frozen BK4.out 1))
 refine bodyPost_ret (results_ct rfl _ _ g4 50 #[.slice none 0 0, .slice none 0 0] (0, 0) _ rfl (blk_put (cs := #[.slice none 0 0, .slice none 0 0]) (blk_put (cs := #[.slice none 0 0, .slice none 0 0]) (BK4.out) 0 _ rfl) 1 _ rfl) Try.underlying50 rfl (by kernel_rfl)) rfl ?_
 exact ⟨_, _, rfl, Kd.R_nil _ _ _ _ _, Kd.S_nil _ _ _ _ _, by repeat (first | exact HB.out | refine below_set ?_ G4.out | apply below_alloc)⟩
theorem setK (w : World) (g : Nat) (u v : Value) : Kept w ((w.setCell ⟨g, 0, none⟩ u).setCell ⟨g, 1, none⟩ v) (fun k => k = g) := Kept.setCell (p := ⟨g, 1, none⟩) (Kept.setCell (p := ⟨g, 0, none⟩) (Kept.refl w (fun k => k = g)) (Or.inl rfl) u) (Or.inl rfl) v
set_option maxHeartbeats 8000000 in
set_option maxRecDepth 100000 in
theorem push_core (k : Nat) (A0 : Option Addr) (c0 : Nat) (l0 : List Int) (A1 : Option Addr) (c1 : Nat) (l1 : List (List Int)) (A2 : Option Addr) (c2 : Nat) (l2 : List Int) (kj : Nat) (t1 : List (List Int)) (t2 : List Int) (r1 : List Int) (r2 : List (List Int)) (r3 : Bool) (w : World) (hr0 : Kd.C (Kd.int .i64) w A0 l0.length l0) (hc0 : l0.length ≤ c0) (hr1 : Kd.C (Kd.slice 5 (Kd.int .u8)) w A1 l1.length l1) (hc1 : l1.length ≤ c1) (hr2 : Kd.C (Kd.int .u8) w A2 l2.length l2) (hc2 : l2.length ≤ c2)
  (e1 : impl_StackOk.f k l0 l1 = some true) (e2 : impl_areHashes.f k [l2] = some true) (e3 : impl_copyList.f kj l1 = some t1) (e4 : impl_copyBytes.f l2 = some t2) (lb : l0.length + 1 < 17592186044416 ∧ t1.length + 1 < 5864062014805) (e5 : impl_StackPush.l0 kj ((l0 ++ [0]).length : Int) (l0 ++ [0]) (t1 ++ [t2]) = some (r1, r2, r3)) :
  Calls Try.prog 53 #[.agg #[.slice A0 l0.length c0, .slice A1 l1.length c1], .slice A2 l2.length c2] w fun e w' => ∃ v0_ v1_ : Value, e = .returned (.tuple #[.agg #[v0_, v1_], .bool r3]) ∧ Kd.R (Kd.int .i64) 3 w' w.heap.size (fun k_ => (w.heap.size ≤ k_)) v0_ r1 ∧ Kd.S (Kd.slice 5 (Kd.int .u8)) 23 w' w.heap.size (fun k_ => (w.heap.size ≤ k_) ∧ some k_ ≠ (v0_ : Value).ownBlock) v1_ r2 ∧ Below w.heap.size w w' := by
 have hu50 := Try.underlying50
 have HR0 := Aside0.mk hr0
 have HC0 := Aside0.mk hc0
 have HR1 := Aside0.mk hr1
 have HC1 := Aside0.mk hc1
 have HR2 := Aside0.mk hr2
 have HC2 := Aside0.mk hc2
 have E1 := Aside0.mk e1
 have E2 := Aside0.mk e2
 have E3 := Aside0.mk e3
 have E4 := Aside0.mk e4
 have LB := Aside0.mk lb
 have E5 := Aside0.mk e5
 clear hr0 hc0 hr1 hc1 hr2 hc2 e1 e2 e3 e4 lb e5
 have HB := Aside0.mk (Below.refl w.heap.size w)
 go_enter Try.func53, Try.ntmps53
 go_wp2_with (first | ((with_reducible refine gate_dst (N := 2) rfl ?_); refine box_event ?hg (N := 2) ?hd (cs := #[.slice A0 l0.length c0, .slice A1 l1.length c1]) (t := 50) ?hr ?_; (case hd => rfl); (case hg => rfl); (case hr => first | (go_simp; done) | (go_simp; rfl)); intro g2 hg wa hbox hb; have BK2 := Aside0.mk hbox; have G2 : Aside0 (w.heap.size ≤ g2) := ⟨by rw [hg]; exact below_size HB.out⟩; clear hbox hg; have nB := Aside0.mk (below_step HB.out hb); clear HB; have HB := nB; clear nB; clear hb) | ((with_reducible refine gate_dst (N := 4) rfl ?_); refine box_event ?hg (N := 4) ?hd (cs := #[.slice none 0 0, .slice none 0 0]) (t := 50) ?hr ?_; (case hd => rfl); (case hg => rfl); (case hr => first | (go_simp; done) | (go_simp; rfl)); intro g4 hg wb hbox hb; have G24 : Aside0 (g2 ≠ g4) := ⟨by rw [hg]; exact Nat.ne_of_lt (blk_lt BK2.out)⟩; have G42 : Aside0 (g4 ≠ g2) := ⟨fun e => G24.out e.symm⟩; have BK4 := Aside0.mk hbox; have G4 : Aside0 (w.heap.size ≤ g4) := ⟨by rw [hg]; exact below_size HB.out⟩; clear hbox hg; have n_2 := Aside0.mk (blk_below BK2.out hb); clear BK2; have BK2 := n_2; clear n_2; have nB := Aside0.mk (below_step HB.out hb); clear HB; have HB := nB; clear nB; clear hb; have hn24 := G24.out; have hn42 := G42.out; have hc2_0 : wb.cell? ⟨g2, 0, none⟩ = some (.slice A0 l0.length c0) := (blk_cell BK2.out 0).trans rfl; have hc2_1 : wb.cell? ⟨g2, 1, none⟩ = some (.slice A1 l1.length c1) := (blk_cell BK2.out 1).trans rfl; have hf2_0 := blk_frozen BK2.out 0; have hf2_1 := blk_frozen BK2.out 1; have hc4_0 : wb.cell? ⟨g4, 0, none⟩ = some (.slice none 0 0) := (blk_cell BK4.out 0).trans rfl; have hc4_1 : wb.cell? ⟨g4, 1, none⟩ = some (.slice none 0 0) := (blk_cell BK4.out 1).trans rfl; have hf4_0 := blk_frozen BK4.out 0; have hf4_1 := blk_frozen BK4.out 1) | (go_at_call 54; refine (impl_StackOk.calls k _ _ l0 _ _ l1 true _ (Kd.C_below HR0.out HB.out) HC0.out (Kd.C_below HR1.out HB.out) HC1.out E1.out).mono ?_; rintro e wc ⟨rfl, hb⟩; clear hc2_0 hc2_1 hf2_0 hf2_1; clear hc4_0 hc4_1 hf4_0 hf4_1; have n_2 := Aside0.mk (blk_below BK2.out hb); clear BK2; have BK2 := n_2; clear n_2; have n_4 := Aside0.mk (blk_below BK4.out hb); clear BK4; have BK4 := n_4; clear n_4; have nB := Aside0.mk (below_step HB.out hb); clear HB; have HB := nB; clear nB; clear hb; have hc2_0 : wc.cell? ⟨g2, 0, none⟩ = some (.slice A0 l0.length c0) := (blk_cell BK2.out 0).trans rfl; have hc2_1 : wc.cell? ⟨g2, 1, none⟩ = some (.slice A1 l1.length c1) := (blk_cell BK2.out 1).trans rfl; have hf2_0 := blk_frozen BK2.out 0; have hf2_1 := blk_frozen BK2.out 1; have hc4_0 : wc.cell? ⟨g4, 0, none⟩ = some (.slice none 0 0) := (blk_cell BK4.out 0).trans rfl; have hc4_1 : wc.cell? ⟨g4, 1, none⟩ = some (.slice none 0 0) := (blk_cell BK4.out 1).trans rfl; have hf4_0 := blk_frozen BK4.out 0; have hf4_1 := blk_frozen BK4.out 1))
 go_wp2_with (first | (go_at_call 86; refine (impl_areHashes.calls k _ 1 [l2] true _ (lit_C (Kd.C_below HR2.out HB.out) HC2.out) (Nat.le_refl _) E2.out).mono ?_; rintro e wd ⟨rfl, hd⟩; clear hc2_0 hc2_1 hf2_0 hf2_1; clear hc4_0 hc4_1 hf4_0 hf4_1; have hb := below_step (below_alloc (Below.refl _ wc) _) (of_d hd); clear hd; have n_2 := Aside0.mk (blk_below BK2.out hb); clear BK2; have BK2 := n_2; clear n_2; have n_4 := Aside0.mk (blk_below BK4.out hb); clear BK4; have BK4 := n_4; clear n_4; have nB := Aside0.mk (below_step HB.out hb); clear HB; have HB := nB; clear nB; clear hb; have hc2_0 : wd.cell? ⟨g2, 0, none⟩ = some (.slice A0 l0.length c0) := (blk_cell BK2.out 0).trans rfl; have hc2_1 : wd.cell? ⟨g2, 1, none⟩ = some (.slice A1 l1.length c1) := (blk_cell BK2.out 1).trans rfl; have hf2_0 := blk_frozen BK2.out 0; have hf2_1 := blk_frozen BK2.out 1; have hc4_0 : wd.cell? ⟨g4, 0, none⟩ = some (.slice none 0 0) := (blk_cell BK4.out 0).trans rfl; have hc4_1 : wd.cell? ⟨g4, 1, none⟩ = some (.slice none 0 0) := (blk_cell BK4.out 1).trans rfl; have hf4_0 := blk_frozen BK4.out 0; have hf4_1 := blk_frozen BK4.out 1))
 go_cut [6] (fun v6 wc => ∃ (G : Nat) (V5 V12 : Value), v6 = .pointer (some ⟨G, 0, none⟩) ∧ Aside0 (Below w.heap.size w wc) ∧ Aside0 (wc.heap[g2]? = some (.cells #[.slice A0 l0.length c0, .slice A1 l1.length c1] 50 (0, 0))) ∧ Aside0 (wc.heap[g4]? = some (.cells #[.slice none 0 0, .slice none 0 0] 50 (0, 0))) ∧ Aside0 (wc.heap[G]? = some (.cells #[V5, V12] 50 (0, 0))) ∧ Aside0 (Kd.R (Kd.int .i64) 3 wc w.heap.size (fun k_ => (w.heap.size ≤ k_)) V5 (l0 ++ [0])) ∧ Aside0 (Kd.S (Kd.slice 5 (Kd.int .u8)) 23 wc w.heap.size (fun k_ => (w.heap.size ≤ k_) ∧ some k_ ≠ (V5 : Value).ownBlock ∧ k_ ≠ g2 ∧ k_ ≠ g4 ∧ k_ ≠ G) V12 (t1 ++ [t2])) ∧ Aside0 (w.heap.size ≤ G) ∧ Aside0 (G ≠ g2) ∧ Aside0 (G ≠ g4))
 case first =>
  have hb : Below wd.heap.size wd wd.drew := below_drew1 (Below.refl _ _)
  have n_2 := Aside0.mk (blk_below BK2.out hb)
  clear BK2
  have BK2 := n_2
  clear n_2
  have n_4 := Aside0.mk (blk_below BK4.out hb)
  clear BK4
  have BK4 := n_4
  clear n_4
  have nB := Aside0.mk (below_step HB.out hb)
  clear HB
  have HB := nB
  clear nB
  clear hb
  refine start_ (n := 16) (S := fun w' => True) (ds := []) #[false, false, false, false, false, false, false, false, false, false, false, false, false, false, false, false] (by kernel_rfl) rfl rfl trivial (fun hHeld => ?_)
  refine with_tabW impl_StackPush.tab3 impl_StackPush.bits3 (fun HT_ HW_ => ?_)
  generalize wd.drew = wr at BK2 BK4 HB hHeld ⊢
  clear hc2_0 hc2_1 hf2_0 hf2_1 hc4_0 hc4_1 hf4_0 hf4_1
  refine pure_ (i := 1) (N := some 19) (v := ?_) (a' := ?_) #[false, true, false, false, false, false, false, false, false, false, false, false, false, false, false, false] rfl rfl (by kernel_rfl) (fun _ _ _ h => h) (Or.inl ⟨by rfl, ?_⟩) ?_ ?_
  rotate_left
  ·
   intro w'
   go_simp
   with_reducible rfl
  rotate_left
  ·
   simp only [Act.put, List.setIfInBounds_toArray, List.set_cons_zero, List.set_cons_succ, i64_w, i32_w]
   rfl
  refine pure_ (i := 6) (N := some 24) (v := ?_) (a' := ?_) #[false, true, false, false, false, false, true, false, false, false, false, false, false, false, false, false] rfl rfl (by kernel_rfl) (fun _ _ _ h => h) (Or.inl ⟨by rfl, ?_⟩) ?_ ?_
  rotate_left
  ·
   intro w'
   go_simp
   with_reducible rfl
  rotate_left
  ·
   simp only [Act.put, List.setIfInBounds_toArray, List.set_cons_zero, List.set_cons_succ, i64_w, i32_w]
   rfl
  refine pure_ (i := 9) (N := some 27) (v := ?_) (a' := ?_) #[false, true, false, false, false, false, true, false, false, true, false, false, false, false, false, false] rfl rfl (by kernel_rfl) (fun _ _ _ h => h) (Or.inl ⟨by rfl, ?_⟩) ?_ ?_
  rotate_left
  ·
   intro w'
   go_simp
   with_reducible rfl
  rotate_left
  ·
   simp only [Act.put, List.setIfInBounds_toArray, List.set_cons_zero, List.set_cons_succ, i64_w, i32_w]
   rfl
  refine inv_at [0, 2, 3, 4, 5, 7, 8, 10, 11, 12, 13, 14, 15] (fun a0_ b a w' => ∃ (V0 : Value) (V3 : Value) (V4 : Value) (V5 : Value) (V8 : Value) (V10 : Value) (V12 : Value) (G11 : Nat) (G : Nat) (m11_ : Value) (m13_ : Value) (m14_ : Value), a = putSel a0_ b [(0, 18, V0), (2, 20, .slice A0 l0.length c0), (3, 21, V3), (4, 22, V4), (5, 23, V5), (7, 25, .slice A1 l1.length c1), (8, 26, V8), (10, 28, V10), (11, 29, m11_), (12, 30, V12), (13, 31, m13_), (14, 6, m14_)] ∧ (Below w.heap.size w w') ∧ (w'.heap[g2]? = some (.cells #[.slice A0 l0.length c0, .slice A1 l1.length c1] 50 (0, 0))) ∧ (w'.heap[g4]? = some (.cells #[.slice none 0 0, .slice none 0 0] 50 (0, 0))) ∧ (b 0 = true → b 3 = false → Kd.R (Kd.int .i64) 3 w' w.heap.size (fun k_ => w.heap.size ≤ k_) V0 ([] : List Int)) ∧ (b 3 = true → b 5 = false → Kd.R (Kd.int .i64) 3 w' w.heap.size (fun k_ => w.heap.size ≤ k_) V3 l0) ∧ (b 4 = true → b 5 = false → Kd.R (Kd.int .i64) 3 w' w.heap.size (fun k_ => w.heap.size ≤ k_) V4 [0]) ∧ (b 0 = true → b 4 = true → b 3 = false → V0.ownBlock = none ∨ V0.ownBlock ≠ V4.ownBlock) ∧ (b 5 = true → Kd.R (Kd.int .i64) 3 w' w.heap.size (fun k_ => w.heap.size ≤ k_) V5 (l0 ++ ([0] : List Int))) ∧ (b 8 = true → b 10 = false → Kd.S (Kd.slice 5 (Kd.int .u8)) 23 w' w.heap.size (fun k_ => some k_ ≠ V5.ownBlock) V8 t1) ∧ (b 10 = true → b 12 = false → Kd.S (Kd.slice 5 (Kd.int .u8)) 23 w' w.heap.size (fun k_ => some k_ ≠ V5.ownBlock ∧ some k_ ≠ V10.ownBlock) V8 t1) ∧ (b 10 = true → b 12 = false → Kd.R (Kd.int .u8) 5 w' w.heap.size (fun k_ => some k_ = V10.ownBlock) V10 t2) ∧ (b 10 = true → b 12 = false → ∀ k_, some k_ = V10.ownBlock → some k_ ≠ V5.ownBlock ∧ some k_ ≠ V8.ownBlock) ∧ (b 11 = true → b 12 = false → w'.heap[G11]? = some (.cells #[V10] 23 (0, 0))) ∧ (b 12 = true → Kd.S (Kd.slice 5 (Kd.int .u8)) 23 w' w.heap.size (fun k_ => some k_ ≠ V5.ownBlock) V12 (t1 ++ [t2])) ∧ (b 14 = true → b 15 = false → w'.heap[G]? = some (.cells #[.slice none 0 0, .slice none 0 0] 50 (0, 0))) ∧ (b 14 = true → w.heap.size ≤ G ∧ G ≠ g2 ∧ G ≠ g4) ∧ (b 15 = true → w'.heap[G]? = some (.cells #[V5, V12] 50 (0, 0))) ∧ (b 11 = true → (m11_ : Value) = .slice (some ⟨G11, 0, none⟩) 1 1) ∧ (b 13 = true → (m13_ : Value) = .agg #[V5, V12]) ∧ (b 14 = true → (m14_ : Value) = .pointer (some ⟨G, 0, none⟩))) HT_.out HW_.out (by kernel_rfl) (by kernel_rfl) ?_ ?_ ?_
  ·
   exact ⟨.bool false, .bool false, .bool false, .bool false, .bool false, .bool false, .bool false, 0, 0, .bool false, .bool false, .bool false, by simp only [putSel, Bool.false_eq_true, if_false], HB.out, BK2.out, BK4.out, fun h_ => absurd h_ (by decide), fun h_ => absurd h_ (by decide), fun h_ => absurd h_ (by decide), fun h_ => absurd h_ (by decide), fun h_ => absurd h_ (by decide), fun h_ => absurd h_ (by decide), fun h_ => absurd h_ (by decide), fun h_ => absurd h_ (by decide), fun h_ => absurd h_ (by decide), fun h_ => absurd h_ (by decide), fun h_ => absurd h_ (by decide), fun h_ => absurd h_ (by decide), fun h_ => absurd h_ (by decide), fun h_ => absurd h_ (by decide), fun h_ => absurd h_ (by decide), fun h_ => absurd h_ (by decide), fun h_ => absurd h_ (by decide)⟩
  ·
   skip
   clear BK2 BK4 HB
   refine steps_cons ?_ ?_
   ·
    rintro b a w' ⟨V0, V3, V4, V5, V8, V10, V12, G11, G, m11_, m13_, m14_, ha, Q_HB, Q_BK2, Q_BK4, Q_F0, Q_F3, Q_F4, Q_N04, Q_F5, Q_F8, Q_F8b, Q_F10, Q_N10, Q_F11, Q_F12, Q_F14, Q_N14, Q_F15, Q_X11_, Q_X13_, Q_X14_⟩ hb_ hon hoff
    refine ⟨_, rfl, fun K hK => ?_⟩
    replace ha := Aside0.mk ha
    have HB := Aside0.mk Q_HB
    have BK2 := Aside0.mk Q_BK2
    have BK4 := Aside0.mk Q_BK4
    refine Kd.R_lit_step (Kd.int .i64) (w0 := w) w.heap.size 3 (by rfl) (N := 18) (by rfl) (xs := ([] : List Int)) (inner := []) (ok := fun k_ => w.heap.size ≤ k_) (okp := fun _ => False) ?hr (Reps.none _ _) (fun _ hk => hk.elim) (below_size HB.out) HB.out (below_size HB.out) (by simp) ?_
    (case hr => first | (go_simp; done) | (go_simp; rfl))
    intro u_ wn ho hb hg_ hnew_
    have K : Kept w' wn (fun _ => False) := Kept.of_grown hg_ (Kept.refl _ _) (fun _ h_ => by cases h_)
    have z_N04 := fun (h0_ : up b 0 0 = true) (h1_ : up b 0 4 = true) (h2_ : up b 0 3 = false) => (show u_.ownBlock = none ∨ u_.ownBlock ≠ V4.ownBlock from own_apart' (n := w'.heap.size) (fun k_ e_ => by obtain ⟨b_, e2_, h2_⟩ := hnew_; rw [e2_] at e_; cases e_; exact h2_) (Kd.R_lt (Q_F4 ((up_ne (by decide)).symm.trans h1_) (hoff 5 (by kernel_rfl)))))
    refine hK.out _ _ ⟨u_, V3, V4, V5, V8, V10, V12, G11, G, m11_, m13_, m14_, (by rw [ha.out]; exact putSel_upk 0 hb_ rfl rfl rfl), hb, blk_kept BK2.out K (fun h_ => h_.elim), blk_kept BK4.out K (fun h_ => h_.elim), fun _ _ => ho, fun h0_ _ => absurd ((hoff 3 (by kernel_rfl)).symm.trans h0_) (by decide), fun h0_ h1_ => Kd.R_kept (Q_F4 h0_ h1_) K (fun _ _ h_ => h_.elim), z_N04, fun h0_ => absurd ((hoff 5 (by kernel_rfl)).symm.trans h0_) (by decide), fun h0_ _ => absurd ((hoff 8 (by kernel_rfl)).symm.trans h0_) (by decide), fun h0_ _ => absurd ((hoff 10 (by kernel_rfl)).symm.trans h0_) (by decide), fun h0_ _ => absurd ((hoff 10 (by kernel_rfl)).symm.trans h0_) (by decide), fun h0_ _ => absurd ((hoff 10 (by kernel_rfl)).symm.trans h0_) (by decide), fun h0_ _ => absurd ((hoff 11 (by kernel_rfl)).symm.trans h0_) (by decide), fun h0_ => absurd ((hoff 12 (by kernel_rfl)).symm.trans h0_) (by decide), fun h0_ h1_ => blk_kept (Q_F14 h0_ h1_) K (fun h_ => h_.elim), Q_N14, fun h0_ => absurd ((hoff 15 (by kernel_rfl)).symm.trans h0_) (by decide), fun h0_ => absurd ((hoff 11 (by kernel_rfl)).symm.trans h0_) (by decide), fun h0_ => absurd ((hoff 13 (by kernel_rfl)).symm.trans h0_) (by decide), Q_X14_⟩
   refine steps_cons ?_ ?_
   ·
    rintro b a w' ⟨V0, V3, V4, V5, V8, V10, V12, G11, G, m11_, m13_, m14_, ha, Q_HB, Q_BK2, Q_BK4, Q_F0, Q_F3, Q_F4, Q_N04, Q_F5, Q_F8, Q_F8b, Q_F10, Q_N10, Q_F11, Q_F12, Q_F14, Q_N14, Q_F15, Q_X11_, Q_X13_, Q_X14_⟩ hb_ hon hoff
    refine ⟨_, rfl, fun K hK => ?_⟩
    have e19 : a.tmps[19]? = some (.pointer (some ⟨g2, 0, none⟩)) := by rw [ha]; exact (putSel_off rfl).trans rfl
    replace ha := Aside0.mk ha
    have HB := Aside0.mk Q_HB
    have BK2 := Aside0.mk Q_BK2
    have BK4 := Aside0.mk Q_BK4
    have hc_ : w'.cell? ⟨g2, 0, none⟩ = some (.slice A0 l0.length c0) := (blk_cell BK2.out 0).trans rfl
    refine value_ (w1 := w') (v := .slice A0 l0.length c0) (by rfl) rfl ?_ ?_
    ·
     go_simp
     (try simp only [i64_w])
     try rfl
    refine hK.out _ _ ⟨V0, V3, V4, V5, V8, V10, V12, G11, G, m11_, m13_, m14_, (by rw [ha.out]; exact putSel_upk 1 hb_ rfl rfl rfl), Q_HB, Q_BK2, Q_BK4, Q_F0, fun h0_ _ => absurd ((hoff 3 (by kernel_rfl)).symm.trans h0_) (by decide), Q_F4, Q_N04, fun h0_ => absurd ((hoff 5 (by kernel_rfl)).symm.trans h0_) (by decide), fun h0_ _ => absurd ((hoff 8 (by kernel_rfl)).symm.trans h0_) (by decide), fun h0_ _ => absurd ((hoff 10 (by kernel_rfl)).symm.trans h0_) (by decide), fun h0_ _ => absurd ((hoff 10 (by kernel_rfl)).symm.trans h0_) (by decide), fun h0_ _ => absurd ((hoff 10 (by kernel_rfl)).symm.trans h0_) (by decide), fun h0_ _ => absurd ((hoff 11 (by kernel_rfl)).symm.trans h0_) (by decide), fun h0_ => absurd ((hoff 12 (by kernel_rfl)).symm.trans h0_) (by decide), Q_F14, Q_N14, fun h0_ => absurd ((hoff 15 (by kernel_rfl)).symm.trans h0_) (by decide), fun h0_ => absurd ((hoff 11 (by kernel_rfl)).symm.trans h0_) (by decide), fun h0_ => absurd ((hoff 13 (by kernel_rfl)).symm.trans h0_) (by decide), Q_X14_⟩
   refine steps_cons ?_ ?_
   ·
    rintro b a w' ⟨V0, V3, V4, V5, V8, V10, V12, G11, G, m11_, m13_, m14_, ha, Q_HB, Q_BK2, Q_BK4, Q_F0, Q_F3, Q_F4, Q_N04, Q_F5, Q_F8, Q_F8b, Q_F10, Q_N10, Q_F11, Q_F12, Q_F14, Q_N14, Q_F15, Q_X11_, Q_X13_, Q_X14_⟩ hb_ hon hoff
    refine ⟨_, rfl, fun K hK => ?_⟩
    have e18 : a.tmps[18]? = some (V0) := by rw [ha]; exact putSel_on (e := (0, 18, V0)) 0 rfl rfl (hon 0 (by kernel_rfl)) rfl
    have e20 : a.tmps[20]? = some (.slice A0 l0.length c0) := by rw [ha]; exact putSel_on (e := (2, 20, .slice A0 l0.length c0)) 1 rfl rfl (hon 2 (by kernel_rfl)) rfl
    replace ha := Aside0.mk ha
    have HB := Aside0.mk Q_HB
    have BK2 := Aside0.mk Q_BK2
    have BK4 := Aside0.mk Q_BK4
    have F0 := Aside0.mk (Q_F0 (hon 0 (by kernel_rfl)) hb_)
    refine Kd.R_append_rows_step (Kd.int .i64) (w0 := w) w.heap.size (by rfl) (.tmp 18) (.tmp 20) 22 3 (.int .i64 0) 8 rfl Try.underlying22 (by kernel_rfl) rfl (by decide) (by omega) V0 ([] : List Int) l0 _ _ _ (fun k_ => w.heap.size ≤ k_) (fun _ => False) (eval_of e18) (eval_of e20) F0.out ?aR (fun _ _ h_ => h_) (fun _ h_ => h_.elim) (fun k_ h_ => Nat.le_trans (below_size HB.out) h_) HB.out (below_size HB.out) ?aL ?_
    (case aR => exact (Kd.C_below HR0.out HB.out))
    (case aL => have h_ := LB.out; simp only [List.length_nil]; omega)
    intro u_ wn ho hb hg_ hat
    have K : Kept w' wn (fun k_ => some k_ = V0.ownBlock) := Kept.of_grown hg_ (Kept.refl _ _) (fun k_ h_ => .inl h_.symm)
    have z_F4 := fun (h0_ : b 4 = true) (h1_ : b 5 = false) => (show Kd.R (Kd.int .i64) 3 wn w.heap.size (fun k_ => w.heap.size ≤ k_) V4 [0] from Kd.R_mono (Kd.R_kept (Kd.R_tight2 rfl (Q_F4 h0_ h1_)) K (fun k_ h_ e_ => (Q_N04 (hon 0 (by kernel_rfl)) h0_ hb_).elim (fun n_ => by rw [n_] at e_; cases e_) (fun n_ => n_ (e_.symm.trans h_.1)))) (fun _ h_ => h_.2))
    refine hK.out _ _ ⟨V0, u_, V4, V5, V8, V10, V12, G11, G, m11_, m13_, m14_, (by rw [ha.out]; exact putSel_upk 2 hb_ rfl rfl rfl), hb, blk_kept BK2.out K (fun h_ => Kd.R_ne F0.out BK2.out (by decide) h_), blk_kept BK4.out K (fun h_ => Kd.R_ne F0.out BK4.out (by decide) h_), fun _ h1_ => absurd ((up_self b 3).symm.trans h1_) (by decide), fun _ _ => ho, z_F4, fun _ _ h2_ => absurd ((up_self b 3).symm.trans h2_) (by decide), fun h0_ => absurd ((hoff 5 (by kernel_rfl)).symm.trans h0_) (by decide), fun h0_ _ => absurd ((hoff 8 (by kernel_rfl)).symm.trans h0_) (by decide), fun h0_ _ => absurd ((hoff 10 (by kernel_rfl)).symm.trans h0_) (by decide), fun h0_ _ => absurd ((hoff 10 (by kernel_rfl)).symm.trans h0_) (by decide), fun h0_ _ => absurd ((hoff 10 (by kernel_rfl)).symm.trans h0_) (by decide), fun h0_ _ => absurd ((hoff 11 (by kernel_rfl)).symm.trans h0_) (by decide), fun h0_ => absurd ((hoff 12 (by kernel_rfl)).symm.trans h0_) (by decide), fun h0_ h1_ => blk_kept (Q_F14 h0_ h1_) K (fun h_ => Kd.R_ne F0.out (Q_F14 h0_ h1_) (by decide) h_), Q_N14, fun h0_ => absurd ((hoff 15 (by kernel_rfl)).symm.trans h0_) (by decide), fun h0_ => absurd ((hoff 11 (by kernel_rfl)).symm.trans h0_) (by decide), fun h0_ => absurd ((hoff 13 (by kernel_rfl)).symm.trans h0_) (by decide), Q_X14_⟩
   refine steps_cons ?_ ?_
   ·
    rintro b a w' ⟨V0, V3, V4, V5, V8, V10, V12, G11, G, m11_, m13_, m14_, ha, Q_HB, Q_BK2, Q_BK4, Q_F0, Q_F3, Q_F4, Q_N04, Q_F5, Q_F8, Q_F8b, Q_F10, Q_N10, Q_F11, Q_F12, Q_F14, Q_N14, Q_F15, Q_X11_, Q_X13_, Q_X14_⟩ hb_ hon hoff
    refine ⟨_, rfl, fun K hK => ?_⟩
    replace ha := Aside0.mk ha
    have HB := Aside0.mk Q_HB
    have BK2 := Aside0.mk Q_BK2
    have BK4 := Aside0.mk Q_BK4
    refine Kd.R_lit_step (Kd.int .i64) (w0 := w) w.heap.size 3 (by rfl) (N := 22) (by rfl) (xs := ([0] : List Int)) (inner := [.int .i64 0]) (ok := fun k_ => w.heap.size ≤ k_) (okp := fun _ => False) ?hr (Reps.one rfl (Reps.none _ _)) (fun _ hk => hk.elim) (below_size HB.out) HB.out (below_size HB.out) (by simp) ?_
    (case hr => first | (go_simp; done) | (go_simp; rfl))
    intro u_ wn ho hb hg_ hnew_
    have K : Kept w' wn (fun _ => False) := Kept.of_grown hg_ (Kept.refl _ _) (fun _ h_ => by cases h_)
    have z_N04 := fun (h0_ : up b 4 0 = true) (h1_ : up b 4 4 = true) (h2_ : up b 4 3 = false) => (show V0.ownBlock = none ∨ V0.ownBlock ≠ u_.ownBlock from own_apart (n := w'.heap.size) (Kd.R_lt (Q_F0 ((up_ne (by decide)).symm.trans h0_) ((up_ne (by decide)).symm.trans h2_))) (fun k_ e_ => by obtain ⟨b_, e2_, h2_⟩ := hnew_; rw [e2_] at e_; cases e_; exact h2_))
    refine hK.out _ _ ⟨V0, V3, u_, V5, V8, V10, V12, G11, G, m11_, m13_, m14_, (by rw [ha.out]; exact putSel_upk 3 hb_ rfl rfl rfl), hb, blk_kept BK2.out K (fun h_ => h_.elim), blk_kept BK4.out K (fun h_ => h_.elim), fun h0_ h1_ => Kd.R_kept (Q_F0 h0_ h1_) K (fun _ _ h_ => h_.elim), fun h0_ h1_ => Kd.R_kept (Q_F3 h0_ h1_) K (fun _ _ h_ => h_.elim), fun _ _ => ho, z_N04, fun h0_ => absurd ((hoff 5 (by kernel_rfl)).symm.trans h0_) (by decide), fun h0_ _ => absurd ((hoff 8 (by kernel_rfl)).symm.trans h0_) (by decide), fun h0_ _ => absurd ((hoff 10 (by kernel_rfl)).symm.trans h0_) (by decide), fun h0_ _ => absurd ((hoff 10 (by kernel_rfl)).symm.trans h0_) (by decide), fun h0_ _ => absurd ((hoff 10 (by kernel_rfl)).symm.trans h0_) (by decide), fun h0_ _ => absurd ((hoff 11 (by kernel_rfl)).symm.trans h0_) (by decide), fun h0_ => absurd ((hoff 12 (by kernel_rfl)).symm.trans h0_) (by decide), fun h0_ h1_ => blk_kept (Q_F14 h0_ h1_) K (fun h_ => h_.elim), Q_N14, fun h0_ => absurd ((hoff 15 (by kernel_rfl)).symm.trans h0_) (by decide), fun h0_ => absurd ((hoff 11 (by kernel_rfl)).symm.trans h0_) (by decide), fun h0_ => absurd ((hoff 13 (by kernel_rfl)).symm.trans h0_) (by decide), Q_X14_⟩
   refine steps_cons ?_ ?_
   ·
    rintro b a w' ⟨V0, V3, V4, V5, V8, V10, V12, G11, G, m11_, m13_, m14_, ha, Q_HB, Q_BK2, Q_BK4, Q_F0, Q_F3, Q_F4, Q_N04, Q_F5, Q_F8, Q_F8b, Q_F10, Q_N10, Q_F11, Q_F12, Q_F14, Q_N14, Q_F15, Q_X11_, Q_X13_, Q_X14_⟩ hb_ hon hoff
    refine ⟨_, rfl, fun K hK => ?_⟩
    have e21 : a.tmps[21]? = some (V3) := by rw [ha]; exact putSel_on (e := (3, 21, V3)) 2 rfl rfl (hon 3 (by kernel_rfl)) rfl
    have e22 : a.tmps[22]? = some (V4) := by rw [ha]; exact putSel_on (e := (4, 22, V4)) 3 rfl rfl (hon 4 (by kernel_rfl)) rfl
    replace ha := Aside0.mk ha
    have HB := Aside0.mk Q_HB
    have BK2 := Aside0.mk Q_BK2
    have BK4 := Aside0.mk Q_BK4
    have F3 := Aside0.mk (Q_F3 (hon 3 (by kernel_rfl)) hb_)
    have F4 := Aside0.mk (Q_F4 (hon 4 (by kernel_rfl)) hb_)
    obtain ⟨A4_, c4_, ev4_⟩ := Kd.R_slice F4.out
    have hF4_ := F4.out
    rw [ev4_] at hF4_
    refine Kd.R_append_rows_step (Kd.int .i64) (w0 := w) w.heap.size (by rfl) (.tmp 21) (.tmp 22) 22 3 (.int .i64 0) 8 rfl Try.underlying22 (by kernel_rfl) rfl (by decide) (by omega) V3 l0 [0] _ _ _ (fun k_ => w.heap.size ≤ k_) (fun _ => False) (eval_of e21) ((eval_of e22).trans ev4_) F3.out ?aR (fun _ _ h_ => h_) (fun _ h_ => h_.elim) (fun k_ h_ => Nat.le_trans (below_size HB.out) h_) HB.out (below_size HB.out) ?aL ?_
    (case aR => exact (Kd.R_reads' hF4_).2.2)
    (case aL => have h_ := LB.out; simp only [List.length_cons, List.length_nil]; omega)
    intro u_ wn ho hb hg_ hat
    have K : Kept w' wn (fun k_ => some k_ = V3.ownBlock) := Kept.of_grown hg_ (Kept.refl _ _) (fun k_ h_ => .inl h_.symm)
    refine hK.out _ _ ⟨V0, V3, V4, u_, V8, V10, V12, G11, G, m11_, m13_, m14_, (by rw [ha.out]; exact putSel_upk 4 hb_ rfl rfl rfl), hb, blk_kept BK2.out K (fun h_ => Kd.R_ne F3.out BK2.out (by decide) h_), blk_kept BK4.out K (fun h_ => Kd.R_ne F3.out BK4.out (by decide) h_), fun _ h1_ => absurd ((hon 3 (by kernel_rfl)).symm.trans h1_) (by decide), fun _ h1_ => absurd ((up_self b 5).symm.trans h1_) (by decide), fun _ h1_ => absurd ((up_self b 5).symm.trans h1_) (by decide), fun _ _ h2_ => absurd ((hon 3 (by kernel_rfl)).symm.trans h2_) (by decide), fun _ => ho, fun h0_ _ => absurd ((hoff 8 (by kernel_rfl)).symm.trans h0_) (by decide), fun h0_ _ => absurd ((hoff 10 (by kernel_rfl)).symm.trans h0_) (by decide), fun h0_ _ => absurd ((hoff 10 (by kernel_rfl)).symm.trans h0_) (by decide), fun h0_ _ => absurd ((hoff 10 (by kernel_rfl)).symm.trans h0_) (by decide), fun h0_ _ => absurd ((hoff 11 (by kernel_rfl)).symm.trans h0_) (by decide), fun h0_ => absurd ((hoff 12 (by kernel_rfl)).symm.trans h0_) (by decide), fun h0_ h1_ => blk_kept (Q_F14 h0_ h1_) K (fun h_ => Kd.R_ne F3.out (Q_F14 h0_ h1_) (by decide) h_), Q_N14, fun h0_ => absurd ((hoff 15 (by kernel_rfl)).symm.trans h0_) (by decide), fun h0_ => absurd ((hoff 11 (by kernel_rfl)).symm.trans h0_) (by decide), fun h0_ => absurd ((hoff 13 (by kernel_rfl)).symm.trans h0_) (by decide), Q_X14_⟩
   refine steps_cons ?_ ?_
   ·
    rintro b a w' ⟨V0, V3, V4, V5, V8, V10, V12, G11, G, m11_, m13_, m14_, ha, Q_HB, Q_BK2, Q_BK4, Q_F0, Q_F3, Q_F4, Q_N04, Q_F5, Q_F8, Q_F8b, Q_F10, Q_N10, Q_F11, Q_F12, Q_F14, Q_N14, Q_F15, Q_X11_, Q_X13_, Q_X14_⟩ hb_ hon hoff
    refine ⟨_, rfl, fun K hK => ?_⟩
    have e24 : a.tmps[24]? = some (.pointer (some ⟨g2, 1, none⟩)) := by rw [ha]; exact (putSel_off rfl).trans rfl
    replace ha := Aside0.mk ha
    have HB := Aside0.mk Q_HB
    have BK2 := Aside0.mk Q_BK2
    have BK4 := Aside0.mk Q_BK4
    have hc_ : w'.cell? ⟨g2, 1, none⟩ = some (.slice A1 l1.length c1) := (blk_cell BK2.out 1).trans rfl
    refine value_ (w1 := w') (v := .slice A1 l1.length c1) (by rfl) rfl ?_ ?_
    ·
     go_simp
     (try simp only [i64_w])
     try rfl
    refine hK.out _ _ ⟨V0, V3, V4, V5, V8, V10, V12, G11, G, m11_, m13_, m14_, (by rw [ha.out]; exact putSel_upk 5 hb_ rfl rfl rfl), Q_HB, Q_BK2, Q_BK4, Q_F0, Q_F3, Q_F4, Q_N04, Q_F5, fun h0_ _ => absurd ((hoff 8 (by kernel_rfl)).symm.trans h0_) (by decide), fun h0_ _ => absurd ((hoff 10 (by kernel_rfl)).symm.trans h0_) (by decide), fun h0_ _ => absurd ((hoff 10 (by kernel_rfl)).symm.trans h0_) (by decide), fun h0_ _ => absurd ((hoff 10 (by kernel_rfl)).symm.trans h0_) (by decide), fun h0_ _ => absurd ((hoff 11 (by kernel_rfl)).symm.trans h0_) (by decide), fun h0_ => absurd ((hoff 12 (by kernel_rfl)).symm.trans h0_) (by decide), Q_F14, Q_N14, fun h0_ => absurd ((hoff 15 (by kernel_rfl)).symm.trans h0_) (by decide), fun h0_ => absurd ((hoff 11 (by kernel_rfl)).symm.trans h0_) (by decide), fun h0_ => absurd ((hoff 13 (by kernel_rfl)).symm.trans h0_) (by decide), Q_X14_⟩
   refine steps_cons ?_ ?_
   ·
    rintro b a w' ⟨V0, V3, V4, V5, V8, V10, V12, G11, G, m11_, m13_, m14_, ha, Q_HB, Q_BK2, Q_BK4, Q_F0, Q_F3, Q_F4, Q_N04, Q_F5, Q_F8, Q_F8b, Q_F10, Q_N10, Q_F11, Q_F12, Q_F14, Q_N14, Q_F15, Q_X11_, Q_X13_, Q_X14_⟩ hb_ hon hoff
    refine ⟨_, rfl, fun K hK => ?_⟩
    have e25 : a.tmps[25]? = some (.slice A1 l1.length c1) := by rw [ha]; exact putSel_on (e := (7, 25, .slice A1 l1.length c1)) 5 rfl rfl (hon 7 (by kernel_rfl)) rfl
    replace ha := Aside0.mk ha
    have HB := Aside0.mk Q_HB
    have BK2 := Aside0.mk Q_BK2
    have BK4 := Aside0.mk Q_BK4
    have F5 := Aside0.mk (Q_F5 (hon 5 (by kernel_rfl)))
    refine goes_ Try.func88 (by kernel_rfl) rfl #[.slice A1 l1.length c1] (by rfl) rfl rfl (by first | (simp only [List.map_toArray, List.map_cons, List.map_nil, Act.eval, Array.getD_eq_getD_getElem?, Option.getD_some, e25]; done) | (simp only [List.map_toArray, List.map_cons, List.map_nil, Act.eval, Array.getD_eq_getD_getElem?, Option.getD_some, e25]; rfl)) ?_
    refine (impl_copyList.calls kj _ _ l1 t1 _ (Kd.C_below HR1.out HB.out) HC1.out E3.out).mono ?_
    rintro e wn ⟨u_, rfl, ho, hb⟩
    refine ⟨_, rfl, ?_⟩
    have K : Kept w' wn (fun _ => False) := Kept.of_below hb _
    refine hK.out _ _ ⟨V0, V3, V4, V5, u_, V10, V12, G11, G, m11_, m13_, m14_, (by rw [ha.out]; exact putSel_upk 6 hb_ rfl rfl rfl), below_step HB.out hb, blk_kept BK2.out K (fun h_ => h_.elim), blk_kept BK4.out K (fun h_ => h_.elim), fun _ h1_ => absurd ((hon 3 (by kernel_rfl)).symm.trans h1_) (by decide), fun _ h1_ => absurd ((hon 5 (by kernel_rfl)).symm.trans h1_) (by decide), fun _ h1_ => absurd ((hon 5 (by kernel_rfl)).symm.trans h1_) (by decide), fun _ _ h2_ => absurd ((hon 3 (by kernel_rfl)).symm.trans h2_) (by decide), fun _ => Kd.R_kept F5.out K (fun _ _ h_ => h_.elim), fun _ _ => Kd.S_mono (Kd.S_lower (Kd.S_new' ho (Kd.R_lt F5.out)) (below_size HB.out)) (fun _ h_ => h_.2), fun h0_ _ => absurd ((hoff 10 (by kernel_rfl)).symm.trans h0_) (by decide), fun h0_ _ => absurd ((hoff 10 (by kernel_rfl)).symm.trans h0_) (by decide), fun h0_ _ => absurd ((hoff 10 (by kernel_rfl)).symm.trans h0_) (by decide), fun h0_ _ => absurd ((hoff 11 (by kernel_rfl)).symm.trans h0_) (by decide), fun h0_ => absurd ((hoff 12 (by kernel_rfl)).symm.trans h0_) (by decide), fun h0_ h1_ => blk_kept (Q_F14 h0_ h1_) K (fun h_ => h_.elim), Q_N14, fun h0_ => absurd ((hoff 15 (by kernel_rfl)).symm.trans h0_) (by decide), fun h0_ => absurd ((hoff 11 (by kernel_rfl)).symm.trans h0_) (by decide), fun h0_ => absurd ((hoff 13 (by kernel_rfl)).symm.trans h0_) (by decide), Q_X14_⟩
   refine steps_cons ?_ ?_
   ·
    rintro b a w' ⟨V0, V3, V4, V5, V8, V10, V12, G11, G, m11_, m13_, m14_, ha, Q_HB, Q_BK2, Q_BK4, Q_F0, Q_F3, Q_F4, Q_N04, Q_F5, Q_F8, Q_F8b, Q_F10, Q_N10, Q_F11, Q_F12, Q_F14, Q_N14, Q_F15, Q_X11_, Q_X13_, Q_X14_⟩ hb_ hon hoff
    refine ⟨_, rfl, fun K hK => ?_⟩
    have e27 : a.tmps[27]? = some (.slice A2 l2.length c2) := by rw [ha]; exact (putSel_off rfl).trans rfl
    replace ha := Aside0.mk ha
    have HB := Aside0.mk Q_HB
    have BK2 := Aside0.mk Q_BK2
    have BK4 := Aside0.mk Q_BK4
    have F5 := Aside0.mk (Q_F5 (hon 5 (by kernel_rfl)))
    have F8 := Aside0.mk (Q_F8 (hon 8 (by kernel_rfl)) hb_)
    refine goes_ Try.func83 (by kernel_rfl) rfl #[.slice A2 l2.length c2] (by rfl) rfl rfl (by first | (simp only [List.map_toArray, List.map_cons, List.map_nil, Act.eval, Array.getD_eq_getD_getElem?, Option.getD_some, e27]; done) | (simp only [List.map_toArray, List.map_cons, List.map_nil, Act.eval, Array.getD_eq_getD_getElem?, Option.getD_some, e27]; rfl)) ?_
    refine (impl_copyBytes.calls _ _ l2 t2 _ (Kd.C_below HR2.out HB.out) HC2.out E4.out).mono ?_
    rintro e wn ⟨u_, rfl, ho, hb⟩
    refine ⟨_, rfl, ?_⟩
    have K : Kept w' wn (fun _ => False) := Kept.of_below hb _
    refine hK.out _ _ ⟨V0, V3, V4, V5, V8, u_, V12, G11, G, m11_, m13_, m14_, (by rw [ha.out]; exact putSel_upk 7 hb_ rfl rfl rfl), below_step HB.out hb, blk_kept BK2.out K (fun h_ => h_.elim), blk_kept BK4.out K (fun h_ => h_.elim), fun _ h1_ => absurd ((hon 3 (by kernel_rfl)).symm.trans h1_) (by decide), fun _ h1_ => absurd ((hon 5 (by kernel_rfl)).symm.trans h1_) (by decide), fun _ h1_ => absurd ((hon 5 (by kernel_rfl)).symm.trans h1_) (by decide), fun _ _ h2_ => absurd ((hon 3 (by kernel_rfl)).symm.trans h2_) (by decide), fun _ => Kd.R_kept F5.out K (fun _ _ h_ => h_.elim), fun _ h1_ => absurd ((up_self b 10).symm.trans h1_) (by decide), fun _ _ => Kd.S_elder' F8.out (Kd.R_base ho) hb, fun _ _ => Kd.R_tight rfl (Kd.R_lower ho (below_size HB.out)), fun _ _ => fun k_ e_ => ⟨fun e2_ => absurd (Kd.R_lt F5.out k_ e2_.symm) (Nat.not_lt.2 (Kd.R_base ho k_ e_.symm)), fun e2_ => absurd (Kd.S_lt F8.out k_ e2_.symm) (Nat.not_lt.2 (Kd.R_base ho k_ e_.symm))⟩, fun h0_ _ => absurd ((hoff 11 (by kernel_rfl)).symm.trans h0_) (by decide), fun h0_ => absurd ((hoff 12 (by kernel_rfl)).symm.trans h0_) (by decide), fun h0_ h1_ => blk_kept (Q_F14 h0_ h1_) K (fun h_ => h_.elim), Q_N14, fun h0_ => absurd ((hoff 15 (by kernel_rfl)).symm.trans h0_) (by decide), fun h0_ => absurd ((hoff 11 (by kernel_rfl)).symm.trans h0_) (by decide), fun h0_ => absurd ((hoff 13 (by kernel_rfl)).symm.trans h0_) (by decide), Q_X14_⟩
   refine steps_cons ?_ ?_
   ·
    rintro b a w' ⟨V0, V3, V4, V5, V8, V10, V12, G11, G, m11_, m13_, m14_, ha, Q_HB, Q_BK2, Q_BK4, Q_F0, Q_F3, Q_F4, Q_N04, Q_F5, Q_F8, Q_F8b, Q_F10, Q_N10, Q_F11, Q_F12, Q_F14, Q_N14, Q_F15, Q_X11_, Q_X13_, Q_X14_⟩ hb_ hon hoff
    refine ⟨_, rfl, fun K hK => ?_⟩
    have e28 : a.tmps[28]? = some (V10) := by rw [ha]; exact putSel_on (e := (10, 28, V10)) 7 rfl rfl (hon 10 (by kernel_rfl)) rfl
    replace ha := Aside0.mk ha
    have HB := Aside0.mk Q_HB
    have BK2 := Aside0.mk Q_BK2
    have BK4 := Aside0.mk Q_BK4
    have F5 := Aside0.mk (Q_F5 (hon 5 (by kernel_rfl)))
    have F8b := Aside0.mk (Q_F8b (hon 10 (by kernel_rfl)) (hoff 12 (by kernel_rfl)))
    have F10 := Aside0.mk (Q_F10 (hon 10 (by kernel_rfl)) (hoff 12 (by kernel_rfl)))
    have N10 := Aside0.mk (Q_N10 (hon 10 (by kernel_rfl)) (hoff 12 (by kernel_rfl)))
    obtain ⟨A10_, c10_, ev10_⟩ := Kd.R_slice F10.out
    subst ev10_
    refine event_step (W := w') (w1 := w'.alloc (.cells #[.slice A10_ t2.length c10_] 23 (0, 0))) (v := .slice (some ⟨w'.heap.size, 0, none⟩) 1 1) (by rfl) ?hr ?_
    (case hr => first | (go_simp; done) | (go_simp; rfl))
    have hb := below_alloc (Below.refl w'.heap.size w') (.cells #[.slice A10_ t2.length c10_] 23 (0, 0))
    have K := Kept.of_below hb (fun _ => False)
    refine hK.out _ _ ⟨V0, V3, V4, V5, V8, (.slice A10_ t2.length c10_), V12, w'.heap.size, G, (.slice (some ⟨w'.heap.size, 0, none⟩) 1 1), m13_, m14_, (by rw [ha.out]; exact putSel_upk 8 hb_ rfl rfl rfl), below_step HB.out hb, blk_kept BK2.out K (fun h_ => h_.elim), blk_kept BK4.out K (fun h_ => h_.elim), fun _ h1_ => absurd ((hon 3 (by kernel_rfl)).symm.trans h1_) (by decide), fun _ h1_ => absurd ((hon 5 (by kernel_rfl)).symm.trans h1_) (by decide), fun _ h1_ => absurd ((hon 5 (by kernel_rfl)).symm.trans h1_) (by decide), fun _ _ h2_ => absurd ((hon 3 (by kernel_rfl)).symm.trans h2_) (by decide), fun _ => Kd.R_kept F5.out K (fun _ _ h_ => h_.elim), fun _ h1_ => absurd ((hon 10 (by kernel_rfl)).symm.trans h1_) (by decide), fun _ _ => Kd.S_kept F8b.out K (fun _ _ h_ => h_.elim), fun _ _ => Kd.R_kept F10.out K (fun _ _ h_ => h_.elim), Q_N10, fun _ _ => blk_new w' _, fun h0_ => absurd ((hoff 12 (by kernel_rfl)).symm.trans h0_) (by decide), fun h0_ h1_ => blk_kept (Q_F14 h0_ h1_) K (fun h_ => h_.elim), Q_N14, fun h0_ => absurd ((hoff 15 (by kernel_rfl)).symm.trans h0_) (by decide), fun _ => rfl, fun h0_ => absurd ((hoff 13 (by kernel_rfl)).symm.trans h0_) (by decide), Q_X14_⟩
   refine steps_cons ?_ ?_
   ·
    rintro b a w' ⟨V0, V3, V4, V5, V8, V10, V12, G11, G, m11_, m13_, m14_, ha, Q_HB, Q_BK2, Q_BK4, Q_F0, Q_F3, Q_F4, Q_N04, Q_F5, Q_F8, Q_F8b, Q_F10, Q_N10, Q_F11, Q_F12, Q_F14, Q_N14, Q_F15, Q_X11_, Q_X13_, Q_X14_⟩ hb_ hon hoff
    refine ⟨_, rfl, fun K hK => ?_⟩
    have e26 : a.tmps[26]? = some (V8) := by rw [ha]; exact putSel_on (e := (8, 26, V8)) 6 rfl rfl (hon 8 (by kernel_rfl)) rfl
    have e29 : a.tmps[29]? = some (m11_) := by rw [ha]; exact putSel_on (e := (11, 29, m11_)) 8 rfl rfl (hon 11 (by kernel_rfl)) rfl
    rw [Q_X11_ (hon 11 (by kernel_rfl))] at e29
    replace ha := Aside0.mk ha
    have HB := Aside0.mk Q_HB
    have BK2 := Aside0.mk Q_BK2
    have BK4 := Aside0.mk Q_BK4
    have F5 := Aside0.mk (Q_F5 (hon 5 (by kernel_rfl)))
    have F8b := Aside0.mk (Q_F8b (hon 10 (by kernel_rfl)) hb_)
    have F10 := Aside0.mk (Q_F10 (hon 10 (by kernel_rfl)) hb_)
    have N10 := Aside0.mk (Q_N10 (hon 10 (by kernel_rfl)) hb_)
    have F11 := Aside0.mk (Q_F11 (hon 11 (by kernel_rfl)) hb_)
    refine ShaBase.S_append_one (w0 := w) w.heap.size (by rfl) (.tmp 26) (.tmp 29) 38 (.slice none 0 0) 24 rfl Try.underlying38 (by kernel_rfl) rfl (by omega) V8 V10 t1 t2 G11 (fun k_ => some k_ ≠ V5.ownBlock) (fun k_ => some k_ = V10.ownBlock) (eval_of e26) (eval_of e29) F11.out F10.out N10.out ?aF (Kd.S_mono F8b.out (fun k_ h_ => ⟨h_.1, h_.2⟩)) HB.out (below_size HB.out) ?aL ?_
    (case aF => exact fun k_ h_ e2_ => absurd (Kd.R_lt F5.out k_ e2_.symm) (Nat.not_lt.2 h_))
    (case aL => have h_ := LB.out; omega)
    intro u_ wn ho hb hg_ hat
    have K : Kept w' wn (fun k_ => some k_ = V8.ownBlock) := Kept.of_grown hg_ (Kept.refl _ _) (fun k_ h_ => .inl h_.symm)
    refine hK.out _ _ ⟨V0, V3, V4, V5, V8, V10, u_, G11, G, m11_, m13_, m14_, (by rw [ha.out]; exact putSel_upk 9 hb_ rfl rfl rfl), hb, blk_kept BK2.out K (fun h_ => Kd.R_ne (Kd.S_R F8b.out) BK2.out (by decide) h_), blk_kept BK4.out K (fun h_ => Kd.R_ne (Kd.S_R F8b.out) BK4.out (by decide) h_), fun _ h1_ => absurd ((hon 3 (by kernel_rfl)).symm.trans h1_) (by decide), fun _ h1_ => absurd ((hon 5 (by kernel_rfl)).symm.trans h1_) (by decide), fun _ h1_ => absurd ((hon 5 (by kernel_rfl)).symm.trans h1_) (by decide), fun _ _ h2_ => absurd ((hon 3 (by kernel_rfl)).symm.trans h2_) (by decide), fun _ => Kd.R_mono (Kd.R_kept (Kd.R_apart' F5.out (Kd.R_typed (Kd.S_R F8b.out)) (by decide)) K (fun _ h_ e_ => h_.2 e_)) (fun _ h_ => h_.1), fun _ h1_ => absurd ((hon 10 (by kernel_rfl)).symm.trans h1_) (by decide), fun _ h1_ => absurd ((up_self b 12).symm.trans h1_) (by decide), fun _ h1_ => absurd ((up_self b 12).symm.trans h1_) (by decide), fun _ h1_ => absurd ((up_self b 12).symm.trans h1_) (by decide), fun _ h1_ => absurd ((up_self b 12).symm.trans h1_) (by decide), fun _ => ho, fun h0_ h1_ => blk_kept (Q_F14 h0_ h1_) K (fun h_ => Kd.R_ne (Kd.S_R F8b.out) (Q_F14 h0_ h1_) (by decide) h_), Q_N14, fun h0_ => absurd ((hoff 15 (by kernel_rfl)).symm.trans h0_) (by decide), Q_X11_, fun h0_ => absurd ((hoff 13 (by kernel_rfl)).symm.trans h0_) (by decide), Q_X14_⟩
   refine steps_cons ?_ ?_
   ·
    rintro b a w' ⟨V0, V3, V4, V5, V8, V10, V12, G11, G, m11_, m13_, m14_, ha, Q_HB, Q_BK2, Q_BK4, Q_F0, Q_F3, Q_F4, Q_N04, Q_F5, Q_F8, Q_F8b, Q_F10, Q_N10, Q_F11, Q_F12, Q_F14, Q_N14, Q_F15, Q_X11_, Q_X13_, Q_X14_⟩ hb_ hon hoff
    refine ⟨_, rfl, fun K hK => ?_⟩
    have e23 : a.tmps[23]? = some (V5) := by rw [ha]; exact putSel_on (e := (5, 23, V5)) 4 rfl rfl (hon 5 (by kernel_rfl)) rfl
    have e30 : a.tmps[30]? = some (V12) := by rw [ha]; exact putSel_on (e := (12, 30, V12)) 9 rfl rfl (hon 12 (by kernel_rfl)) rfl
    replace ha := Aside0.mk ha
    have HB := Aside0.mk Q_HB
    have BK2 := Aside0.mk Q_BK2
    have BK4 := Aside0.mk Q_BK4
    have F5 := Aside0.mk (Q_F5 (hon 5 (by kernel_rfl)))
    have F12 := Aside0.mk (Q_F12 (hon 12 (by kernel_rfl)))
    obtain ⟨A5_, c5_, ev5_⟩ := Kd.R_slice F5.out
    subst ev5_
    obtain ⟨A12_, c12_, ev12_⟩ := Kd.S_slice F12.out
    subst ev12_
    refine value_ (w1 := w') (v := .agg #[(.slice A5_ (l0 ++ ([0] : List Int)).length c5_), (.slice A12_ (t1 ++ [t2]).length c12_)]) (by rfl) rfl ?_ ?_
    ·
     go_simp
     (try simp only [i64_w])
     try rfl
    refine hK.out _ _ ⟨V0, V3, V4, (.slice A5_ (l0 ++ ([0] : List Int)).length c5_), V8, V10, (.slice A12_ (t1 ++ [t2]).length c12_), G11, G, m11_, (.agg #[(.slice A5_ (l0 ++ ([0] : List Int)).length c5_), (.slice A12_ (t1 ++ [t2]).length c12_)]), m14_, (by rw [ha.out]; exact putSel_upk 10 hb_ rfl rfl rfl), Q_HB, Q_BK2, Q_BK4, fun _ h1_ => absurd ((hon 3 (by kernel_rfl)).symm.trans h1_) (by decide), fun _ h1_ => absurd ((hon 5 (by kernel_rfl)).symm.trans h1_) (by decide), fun _ h1_ => absurd ((hon 5 (by kernel_rfl)).symm.trans h1_) (by decide), fun _ _ h2_ => absurd ((hon 3 (by kernel_rfl)).symm.trans h2_) (by decide), Q_F5, fun _ h1_ => absurd ((hon 10 (by kernel_rfl)).symm.trans h1_) (by decide), fun _ h1_ => absurd ((hon 12 (by kernel_rfl)).symm.trans h1_) (by decide), fun _ h1_ => absurd ((hon 12 (by kernel_rfl)).symm.trans h1_) (by decide), fun _ h1_ => absurd ((hon 12 (by kernel_rfl)).symm.trans h1_) (by decide), fun _ h1_ => absurd ((hon 12 (by kernel_rfl)).symm.trans h1_) (by decide), Q_F12, Q_F14, Q_N14, fun h0_ => absurd ((hoff 15 (by kernel_rfl)).symm.trans h0_) (by decide), Q_X11_, fun _ => rfl, Q_X14_⟩
   refine steps_cons ?_ ?_
   ·
    rintro b a w' ⟨V0, V3, V4, V5, V8, V10, V12, G11, G, m11_, m13_, m14_, ha, Q_HB, Q_BK2, Q_BK4, Q_F0, Q_F3, Q_F4, Q_N04, Q_F5, Q_F8, Q_F8b, Q_F10, Q_N10, Q_F11, Q_F12, Q_F14, Q_N14, Q_F15, Q_X11_, Q_X13_, Q_X14_⟩ hb_ hon hoff
    refine ⟨_, rfl, fun K hK => ?_⟩
    replace ha := Aside0.mk ha
    have HB := Aside0.mk Q_HB
    have BK2 := Aside0.mk Q_BK2
    have BK4 := Aside0.mk Q_BK4
    refine box_step (W := w') (by rfl) (N := 6) (by rfl) (cs := #[.slice none 0 0, .slice none 0 0]) (t := 50) ?hr ?_
    (case hr => first | (go_simp; done) | (go_simp; rfl))
    intro gn hg wn hbox hb
    have K : Kept w' wn (fun _ => False) := Kept.of_below hb _
    refine hK.out _ _ ⟨V0, V3, V4, V5, V8, V10, V12, G11, gn, m11_, m13_, (.pointer (some ⟨gn, 0, none⟩)), (by rw [ha.out]; exact putSel_upk 11 hb_ rfl rfl rfl), below_step HB.out hb, blk_kept BK2.out K (fun h_ => h_.elim), blk_kept BK4.out K (fun h_ => h_.elim), fun h0_ h1_ => Kd.R_kept (Q_F0 h0_ h1_) K (fun _ _ h_ => h_.elim), fun h0_ h1_ => Kd.R_kept (Q_F3 h0_ h1_) K (fun _ _ h_ => h_.elim), fun h0_ h1_ => Kd.R_kept (Q_F4 h0_ h1_) K (fun _ _ h_ => h_.elim), Q_N04, fun h0_ => Kd.R_kept (Q_F5 h0_) K (fun _ _ h_ => h_.elim), fun h0_ h1_ => Kd.S_kept (Q_F8 h0_ h1_) K (fun _ _ h_ => h_.elim), fun h0_ h1_ => Kd.S_kept (Q_F8b h0_ h1_) K (fun _ _ h_ => h_.elim), fun h0_ h1_ => Kd.R_kept (Q_F10 h0_ h1_) K (fun _ _ h_ => h_.elim), Q_N10, fun h0_ h1_ => blk_kept (Q_F11 h0_ h1_) K (fun h_ => h_.elim), fun h0_ => Kd.S_kept (Q_F12 h0_) K (fun _ _ h_ => h_.elim), fun _ _ => hbox, fun _ => (by rw [hg]; exact ⟨below_size HB.out, Nat.ne_of_gt (blk_lt BK2.out), Nat.ne_of_gt (blk_lt BK4.out)⟩), fun h0_ => absurd ((hoff 15 (by kernel_rfl)).symm.trans h0_) (by decide), Q_X11_, Q_X13_, fun _ => rfl⟩
   refine steps_cons ?_ ?_
   ·
    rintro b a w' ⟨V0, V3, V4, V5, V8, V10, V12, G11, G, m11_, m13_, m14_, ha, Q_HB, Q_BK2, Q_BK4, Q_F0, Q_F3, Q_F4, Q_N04, Q_F5, Q_F8, Q_F8b, Q_F10, Q_N10, Q_F11, Q_F12, Q_F14, Q_N14, Q_F15, Q_X11_, Q_X13_, Q_X14_⟩ hb_ hon hoff
    refine ⟨_, rfl, fun K hK => ?_⟩
    have e6 : a.tmps[6]? = some (m14_) := by rw [ha]; exact putSel_on (e := (14, 6, m14_)) 11 rfl rfl (hon 14 (by kernel_rfl)) rfl
    rw [Q_X14_ (hon 14 (by kernel_rfl))] at e6
    have e31 : a.tmps[31]? = some (m13_) := by rw [ha]; exact putSel_on (e := (13, 31, m13_)) 10 rfl rfl (hon 13 (by kernel_rfl)) rfl
    rw [Q_X13_ (hon 13 (by kernel_rfl))] at e31
    replace ha := Aside0.mk ha
    have HB := Aside0.mk Q_HB
    have BK2 := Aside0.mk Q_BK2
    have BK4 := Aside0.mk Q_BK4
    have F5 := Aside0.mk (Q_F5 (hon 5 (by kernel_rfl)))
    have F12 := Aside0.mk (Q_F12 (hon 12 (by kernel_rfl)))
    have F14 := Aside0.mk (Q_F14 (hon 14 (by kernel_rfl)) hb_)
    have N14 := Aside0.mk (Q_N14 (hon 14 (by kernel_rfl)))
    obtain ⟨A5_, c5_, ev5_⟩ := Kd.R_slice F5.out
    subst ev5_
    obtain ⟨A12_, c12_, ev12_⟩ := Kd.S_slice F12.out
    subst ev12_
    have hs0_ : w'.cell? ⟨G, 0, none⟩ = some (.slice none 0 0) := (blk_cell F14.out 0).trans rfl
    have hs1_ : w'.cell? ⟨G, 1, none⟩ = some (.slice none 0 0) := (blk_cell F14.out 1).trans rfl
    have hf0_ := blk_frozen F14.out 0
    have hf1_ := blk_frozen F14.out 1
    refine skip_ (w1 := (w'.setCell ⟨G, 0, none⟩ (.slice A5_ (l0 ++ ([0] : List Int)).length c5_)).setCell ⟨G, 1, none⟩ (.slice A12_ (t1 ++ [t2]).length c12_)) (by rfl) rfl ?_ ?_
    ·
     go_simp
    have K := setK w' G (.slice A5_ (l0 ++ ([0] : List Int)).length c5_) (.slice A12_ (t1 ++ [t2]).length c12_)
    refine hK.out _ _ ⟨V0, V3, V4, (.slice A5_ (l0 ++ ([0] : List Int)).length c5_), V8, V10, (.slice A12_ (t1 ++ [t2]).length c12_), G11, G, m11_, m13_, m14_, (by rw [ha.out]; exact putSel_none (v := undef) rfl), below_set (below_set HB.out N14.out.1) N14.out.1, blk_kept BK2.out K (fun h_ => N14.out.2.1 h_.symm), blk_kept BK4.out K (fun h_ => N14.out.2.2 h_.symm), fun _ h1_ => absurd ((hon 3 (by kernel_rfl)).symm.trans h1_) (by decide), fun _ h1_ => absurd ((hon 5 (by kernel_rfl)).symm.trans h1_) (by decide), fun _ h1_ => absurd ((hon 5 (by kernel_rfl)).symm.trans h1_) (by decide), fun _ _ h2_ => absurd ((hon 3 (by kernel_rfl)).symm.trans h2_) (by decide), fun _ => Kd.R_mono (Kd.R_kept (Kd.R_types F5.out F14.out (by decide)) K (fun _ h_ e_ => h_.2 e_)) (fun _ h_ => h_.1), fun _ h1_ => absurd ((hon 10 (by kernel_rfl)).symm.trans h1_) (by decide), fun _ h1_ => absurd ((hon 12 (by kernel_rfl)).symm.trans h1_) (by decide), fun _ h1_ => absurd ((hon 12 (by kernel_rfl)).symm.trans h1_) (by decide), fun _ h1_ => absurd ((hon 12 (by kernel_rfl)).symm.trans h1_) (by decide), fun _ h1_ => absurd ((hon 12 (by kernel_rfl)).symm.trans h1_) (by decide), fun _ => Kd.S_mono (Kd.S_kept (Kd.S_types F12.out F14.out (by decide)) K (fun _ h_ e_ => h_.2 e_)) (fun _ h_ => h_.1), fun _ h1_ => absurd ((up_self b 15).symm.trans h1_) (by decide), Q_N14, fun _ => blk_put (cs := #[.slice A5_ (l0 ++ ([0] : List Int)).length c5_, .slice none 0 0]) (blk_put (cs := #[.slice none 0 0, .slice none 0 0]) F14.out 0 _ rfl) 1 _ rfl, Q_X11_, Q_X13_, Q_X14_⟩
   exact steps_nil
  ·
   rintro b a w' hall ⟨V0, V3, V4, V5, V8, V10, V12, G11, G, m11_, m13_, m14_, ha, Q_HB, Q_BK2, Q_BK4, Q_F0, Q_F3, Q_F4, Q_N04, Q_F5, Q_F8, Q_F8b, Q_F10, Q_N10, Q_F11, Q_F12, Q_F14, Q_N14, Q_F15, Q_X11_, Q_X13_, Q_X14_⟩
   clear BK2 BK4 HB
   have hb0_ := hall 0 (by kernel_rfl)
   have hb2_ := hall 2 (by kernel_rfl)
   have hb3_ := hall 3 (by kernel_rfl)
   have hb4_ := hall 4 (by kernel_rfl)
   have hb5_ := hall 5 (by kernel_rfl)
   have hb7_ := hall 7 (by kernel_rfl)
   have hb8_ := hall 8 (by kernel_rfl)
   have hb10_ := hall 10 (by kernel_rfl)
   have hb11_ := hall 11 (by kernel_rfl)
   have hb12_ := hall 12 (by kernel_rfl)
   have hb13_ := hall 13 (by kernel_rfl)
   have hb14_ := hall 14 (by kernel_rfl)
   have hb15_ := hall 15 (by kernel_rfl)
   subst ha
   obtain rfl := Q_X11_ hb11_
   obtain rfl := Q_X13_ hb13_
   obtain rfl := Q_X14_ hb14_
   simp only [putSel, hb0_, hb2_, hb3_, hb4_, hb5_, hb7_, hb8_, hb10_, hb11_, hb12_, hb13_, hb14_, hb15_, if_true, Act.put, List.setIfInBounds_toArray, List.set_cons_zero, List.set_cons_succ]
   have HB := Aside0.mk Q_HB
   clear Q_HB
   have BK2 := Aside0.mk Q_BK2
   clear Q_BK2
   have BK4 := Aside0.mk Q_BK4
   clear Q_BK4
   clear Q_F0
   clear Q_F3
   clear Q_F4
   clear Q_N04
   have F5 := Aside0.mk (Q_F5 hb5_)
   clear Q_F5
   clear Q_F8
   clear Q_F8b
   clear Q_F10
   clear Q_N10
   clear Q_F11
   have F12 := Aside0.mk (Q_F12 hb12_)
   clear Q_F12
   clear Q_F14
   have N14 := Aside0.mk (Q_N14 hb14_)
   clear Q_N14
   have F15 := Aside0.mk (Q_F15 hb15_)
   clear Q_F15
   clear hall hb0_ hb2_ hb3_ hb4_ hb5_ hb7_ hb8_ hb10_ hb11_ hb12_ hb13_ hb14_ hb15_
   try go_wp2
   go_meet
   case rel => exact ⟨G, _, _, rfl, HB, BK2, BK4, F15, F5, ⟨Kd.S_mono (Kd.S_types (Kd.S_types (Kd.S_types (Kd.S_bound F12.out) BK2.out (by decide)) BK4.out (by decide)) F15.out (by decide)) (fun k_ hk => ⟨hk.1.1.1.2.1, hk.1.1.1.1, hk.1.1.2, hk.1.2, hk.2⟩)⟩, ⟨N14.out.1⟩, ⟨N14.out.2.1⟩, ⟨N14.out.2.2⟩⟩
 case rest =>
  clear BK2 BK4 HB hc2_0 hc2_1 hf2_0 hf2_1 hc4_0 hc4_1 hf4_0 hf4_1
  obtain ⟨G, V5, V12, rfl, HB, BK2, BK4, BK215, HO202, HO214, GE215, NB215_187, NB215_188⟩ := hcut
  have NB187_215 : Aside0 (g2 ≠ G) := ⟨fun e => NB215_187.out e.symm⟩
  have NB188_215 : Aside0 (g4 ≠ G) := ⟨fun e => NB215_188.out e.symm⟩
  obtain ⟨A5_, c5_, ev5_⟩ := Kd.R_slice HO202.out
  subst ev5_
  have hcz0 : wc.cell? ⟨G, 0, none⟩ = some (.slice A5_ (l0 ++ [0]).length c5_) := (blk_cell BK215.out 0).trans rfl
  have hcz1 : wc.cell? ⟨G, 1, none⟩ = some V12 := (blk_cell BK215.out 1).trans rfl
  have hfz0 := blk_frozen BK215.out 0
  have hfz1 := blk_frozen BK215.out 1
  have hLen : ((l0 ++ [0]).length : Int) = (((l0 ++ [0]).length : Nat) : Int) := rfl
  have H' := E5
  have HJ2 : Aside0 (kj ≤ kj) := ⟨Nat.le_refl _⟩
  try go_wp2
  go_loopg [7] kj (fun kq v7 w' => ∃ (x7_2 : Int) (x216000_2 : List Int) (x216001_2 : List (List Int)) (u216000 : Value) (u216001 : Value), v7 = .int .i64 x7_2 ∧ Aside0 (impl_StackPush.l0 kq x7_2 x216000_2 x216001_2 = some (r1, r2, r3)) ∧ Aside0 (kq ≤ kj) ∧ Aside0 (Kd.R (Kd.int .i64) 3 w' w.heap.size (fun k_ => (w.heap.size ≤ k_)) u216000 x216000_2) ∧ Aside0 (Kd.S (Kd.slice 5 (Kd.int .u8)) 23 w' w.heap.size (fun k_ => (w.heap.size ≤ k_) ∧ some k_ ≠ (u216000 : Value).ownBlock ∧ k_ ≠ g2 ∧ k_ ≠ g4 ∧ k_ ≠ G) u216001 x216001_2) ∧ Aside0 (w'.heap[g2]? = some (.cells #[(.slice A0 l0.length c0), (.slice A1 l1.length c1)] 50 (0, 0))) ∧ Aside0 (w'.heap[g4]? = some (.cells #[(.slice none 0 0), (.slice none 0 0)] 50 (0, 0))) ∧ Aside0 (w'.heap[G]? = some (.cells #[u216000, u216001] 50 (0, 0))) ∧ Aside0 (Below w.heap.size w w'))
  case atStart => exact ⟨((l0 ++ [0]).length : Int), l0 ++ [0], t1 ++ [t2], _, V12, (by first | rfl | (simp; done)), H', ⟨Nat.le_refl _⟩, HO202, HO214, BK2, BK4, BK215, HB⟩
  case round =>
   clear H'
   try clear c2
   try clear p2
   try clear c4
   try clear c22
   try clear c46
   try clear c47
   try clear hcz48_0
   try clear hcz48_1
   try clear hfz48_0
   try clear hfz48_1
   obtain ⟨x7_2, x216000_2, x216001_2, u216000, u216001, rfl, HA, HK2, HO_216000, HO_216001, BK2, BK4, BK215, HB⟩ := hrel
   cases gk with
   | zero => exact absurd HA.out (by simp [impl_StackPush.l0])
   | succ k2 =>
    have H := HA.out
    clear HA
    simp only [impl_StackPush.l0] at H
    by_cases c49 : x7_2 > 1
    ·
     rw [if_pos c49] at H
     have c49b0 : decide (1 < x7_2) = true := decide_eq_true c49
     clear c49
     obtain ⟨ji50, hji50⟩ : ∃ j_ : Int, (wrap64 (x7_2 - 1)) = j_ := ⟨_, rfl⟩
     replace H : (if 0 ≤ (ji50) then (if (ji50) < (x216000_2.length : Int) then (if 0 ≤ (wrap64 (x7_2 - 2)) then (if (wrap64 (x7_2 - 2)) < (x216000_2.length : Int) then (if (rd x216000_2 (ji50)) = (rd x216000_2 (wrap64 (x7_2 - 2))) then (if (wrap64 (x7_2 - 2)) < (x216001_2.length : Int) then (if (ji50) < (x216001_2.length : Int) then ((impl_NodeHash.f k2 (rd_L2 x216001_2 (wrap64 (x7_2 - 2))) (rd_L2 x216001_2 (ji50))).bind fun t220 => (if (ji50) ≤ (x216000_2.length : Int) then (if (ji50) ≤ (x216001_2.length : Int) then (impl_StackPush.l0 k2 ji50 ((x216000_2.set ((wrap64 (x7_2 - 2)) : Int).toNat (wrap64 ((rd x216000_2 (wrap64 (x7_2 - 2))) + 1))).take ((ji50) : Int).toNat) ((x216001_2.set ((wrap64 (x7_2 - 2)) : Int).toNat t220).take ((ji50) : Int).toNat)) else (none)) else (none))) else (none)) else (none)) else ((impl_StackOk.f k2 x216000_2 x216001_2).bind fun t232 => (if t232 = true then (some (x216000_2, x216001_2, true)) else (some (([] : List Int), ([] : List (List Int)), false))))) else (none)) else (none)) else (none)) else (none)) = some (r1, r2, r3) := by first | (rw [hji50] at H; exact H) | (simp only [hji50] at H ⊢; exact H)
     have hji50w : (IntKind.i64.wrap (x7_2 - 1)) = ji50 := (i64_w _).trans hji50
     by_cases c51 : 0 ≤ (ji50)
     ·
      rw [if_pos c51] at H
      have c51b0 : decide (0 ≤ (ji50)) = true := decide_eq_true c51
      clear c51
      by_cases c52 : (ji50) < (x216000_2.length : Int)
      ·
       rw [if_pos c52] at H
       have c52b0 : decide ((ji50) < (x216000_2.length : Int)) = true := decide_eq_true c52
       clear c52
       obtain ⟨ji53, hji53⟩ : ∃ j_ : Int, (wrap64 (x7_2 - 2)) = j_ := ⟨_, rfl⟩
       replace H : (if 0 ≤ (ji53) then (if (ji53) < (x216000_2.length : Int) then (if (rd x216000_2 (ji50)) = (rd x216000_2 (ji53)) then (if (ji53) < (x216001_2.length : Int) then (if (ji50) < (x216001_2.length : Int) then ((impl_NodeHash.f k2 (rd_L2 x216001_2 (ji53)) (rd_L2 x216001_2 (ji50))).bind fun t220 => (if (ji50) ≤ (x216000_2.length : Int) then (if (ji50) ≤ (x216001_2.length : Int) then (impl_StackPush.l0 k2 ji50 ((x216000_2.set ((ji53) : Int).toNat (wrap64 ((rd x216000_2 (ji53)) + 1))).take ((ji50) : Int).toNat) ((x216001_2.set ((ji53) : Int).toNat t220).take ((ji50) : Int).toNat)) else (none)) else (none))) else (none)) else (none)) else ((impl_StackOk.f k2 x216000_2 x216001_2).bind fun t232 => (if t232 = true then (some (x216000_2, x216001_2, true)) else (some (([] : List Int), ([] : List (List Int)), false))))) else (none)) else (none)) = some (r1, r2, r3) := by first | (rw [hji53] at H; exact H) | (simp only [hji53] at H ⊢; exact H)
       have hji53w : (IntKind.i64.wrap (x7_2 - 2)) = ji53 := (i64_w _).trans hji53
       by_cases c54 : 0 ≤ (ji53)
       ·
        rw [if_pos c54] at H
        have c54b0 : decide (0 ≤ (ji53)) = true := decide_eq_true c54
        clear c54
        by_cases c55 : (ji53) < (x216000_2.length : Int)
        ·
         rw [if_pos c55] at H
         have c55b0 : decide ((ji53) < (x216000_2.length : Int)) = true := decide_eq_true c55
         clear c55
         by_cases c56 : (rd x216000_2 (ji50)) = (rd x216000_2 (ji53))
         ·
          rw [if_pos c56] at H
          have c56b0 : ((rd x216000_2 (ji50)) == (rd x216000_2 (ji53))) = true := beq_iff_eq.mpr c56
          have c56b1 : ((rd x216000_2 (ji50)) != (rd x216000_2 (ji53))) = false := bne_eq_false_iff_eq.mpr c56
          clear c56
          by_cases c57 : (ji53) < (x216001_2.length : Int)
          ·
           rw [if_pos c57] at H
           have c57b0 : decide ((ji53) < (x216001_2.length : Int)) = true := decide_eq_true c57
           clear c57
           by_cases c58 : (ji50) < (x216001_2.length : Int)
           ·
            rw [if_pos c58] at H
            have c58b0 : decide ((ji50) < (x216001_2.length : Int)) = true := decide_eq_true c58
            clear c58
            replace H := Option.bind_eq_some_iff.mp H
            obtain ⟨t220, A590, H⟩ := H
            replace H : (if (ji50) ≤ (x216000_2.length : Int) then (if (ji50) ≤ (x216001_2.length : Int) then (impl_StackPush.l0 k2 ji50 ((x216000_2.set ((ji53) : Int).toNat (wrap64 ((rd x216000_2 (ji53)) + 1))).take ((ji50) : Int).toNat) ((x216001_2.set ((ji53) : Int).toNat t220).take ((ji50) : Int).toNat)) else (none)) else (none)) = some (r1, r2, r3) := H
            have A59 := Aside0.mk A590
            clear A590
            obtain ⟨y223, hy223⟩ : ∃ y_ : List (List Int), y_ = (x216001_2.set ((ji53) : Int).toNat t220) := ⟨_, rfl⟩
            replace H : (if (ji50) ≤ (x216000_2.length : Int) then (if (ji50) ≤ (x216001_2.length : Int) then (impl_StackPush.l0 k2 ji50 ((x216000_2.set ((ji53) : Int).toNat (wrap64 ((rd x216000_2 (ji53)) + 1))).take ((ji50) : Int).toNat) (y223.take ((ji50) : Int).toNat)) else (none)) else (none)) = some (r1, r2, r3) := by first | (rw [hy223]; with_reducible exact H) | (have H2_ := (Option.bind_some _ _).symm.trans H; rw [hy223]; with_reducible exact H2_) | (have H2_ := (Option.bind_some _ _).symm.trans H; with_reducible exact H2_) | with_reducible exact H | (rw [hy223]; exact H) | exact H
            have Ny223 := Aside0.mk hy223
            clear hy223
            obtain ⟨y225, hy225⟩ : ∃ y_ : List Int, y_ = (x216000_2.set ((ji53) : Int).toNat (wrap64 ((rd x216000_2 (ji53)) + 1))) := ⟨_, rfl⟩
            replace H : (if (ji50) ≤ (x216000_2.length : Int) then (if (ji50) ≤ (x216001_2.length : Int) then (impl_StackPush.l0 k2 ji50 (y225.take ((ji50) : Int).toNat) (y223.take ((ji50) : Int).toNat)) else (none)) else (none)) = some (r1, r2, r3) := by first | (rw [hy225]; with_reducible exact H) | (have H2_ := (Option.bind_some _ _).symm.trans H; rw [hy225]; with_reducible exact H2_) | (have H2_ := (Option.bind_some _ _).symm.trans H; with_reducible exact H2_) | with_reducible exact H | (rw [hy225]; exact H) | exact H
            have Ny225 := Aside0.mk hy225
            clear hy225
            by_cases c62 : (ji50) ≤ (x216000_2.length : Int)
            ·
             rw [if_pos c62] at H
             have c62b0 := eq_true c62
             have c62b1 : decide ((ji50) ≤ (x216000_2.length : Int)) = true := decide_eq_true c62
             clear c62
             obtain ⟨y226, hy226⟩ : ∃ y_ : List Int, y_ = (y225.take ((ji50) : Int).toNat) := ⟨_, rfl⟩
             replace H : (if (ji50) ≤ (x216001_2.length : Int) then (impl_StackPush.l0 k2 ji50 y226 (y223.take ((ji50) : Int).toNat)) else (none)) = some (r1, r2, r3) := by first | (rw [hy226]; with_reducible exact H) | (have H2_ := (Option.bind_some _ _).symm.trans H; rw [hy226]; with_reducible exact H2_) | (have H2_ := (Option.bind_some _ _).symm.trans H; with_reducible exact H2_) | with_reducible exact H | (rw [hy226]; exact H) | exact H
             have Ny226 := Aside0.mk hy226
             clear hy226
             by_cases c63 : (ji50) ≤ (x216001_2.length : Int)
             ·
              rw [if_pos c63] at H
              have c63b0 := eq_true c63
              have c63b1 : decide ((ji50) ≤ (x216001_2.length : Int)) = true := decide_eq_true c63
              clear c63
              obtain ⟨y229, hy229⟩ : ∃ y_ : List (List Int), y_ = (y223.take ((ji50) : Int).toNat) := ⟨_, rfl⟩
              replace H : (impl_StackPush.l0 k2 ji50 y226 y229) = some (r1, r2, r3) := by first | (rw [hy229]; with_reducible exact H) | (have H2_ := (Option.bind_some _ _).symm.trans H; rw [hy229]; with_reducible exact H2_) | (have H2_ := (Option.bind_some _ _).symm.trans H; with_reducible exact H2_) | with_reducible exact H | (rw [hy229]; exact H) | exact H
              have Ny229 := Aside0.mk hy229
              clear hy229
              have H' := Aside0.mk H
              clear H
              try go_wp2
              have n0_ := Aside0.mk (Kd.R_drew HO_216000.out)
              have n1_ := Aside0.mk (Kd.S_drew HO_216001.out)
              have n2_ := Aside0.mk (blk_drew BK2.out)
              have n3_ := Aside0.mk (blk_drew BK4.out)
              have n4_ := Aside0.mk (blk_drew BK215.out)
              have n5_ := Aside0.mk (below_drew1 HB.out)
              clear HO_216000
              clear HO_216001
              clear BK2
              clear BK4
              clear BK215
              clear HB
              have HO_216000 := n0_
              have HO_216001 := n1_
              have BK2 := n2_
              have BK4 := n3_
              have BK215 := n4_
              have HB := n5_
              clear n0_ n1_ n2_ n3_ n4_ n5_
              obtain ⟨Ao65, co65, eo65⟩ := Kd.R_slice HO_216000.out
              (first | subst eo65 | (injection eo65 with f1_ f2_ f3_; have f4_ := f1_.symm; have f5_ := f3_.symm; clear f1_ f2_ f3_; subst f4_; subst f5_))
              have p216 : 0 ≤ ((ji50) : Int) := of_decide_eq_true asA
              have q216 : (ji50) < (x216000_2.length : Int) := of_decide_eq_true asA
              obtain ⟨ad216, e216, hx216_0⟩ := Kd.at_int (Kd.R_reads' HO_216000.out).2.2 (ji50) p216 q216
              cases e216
              replace p216 := eq_true p216
              replace q216 := eq_true q216
              have p217 : 0 ≤ ((ji53) : Int) := of_decide_eq_true asA
              have q217 : (ji53) < (x216000_2.length : Int) := of_decide_eq_true asA
              obtain ⟨ad217, e217, hx217_0⟩ := Kd.at_int (Kd.R_reads' HO_216000.out).2.2 (ji53) p217 q217
              obtain rfl : ad216 = ad217 := (by injection e217)
              replace p217 := eq_true p217
              replace q217 := eq_true q217
              refine start_ (n := 17) (S := fun w' => w'.cell? ⟨G, 0, none⟩ = some (.slice (some ad216) x216000_2.length co65) ∧ w'.cell? ⟨G, 1, none⟩ = some (u216001) ∧ w'.cell? (ad216.add ((ji50)).toNat) = some (.int .i64 (rd x216000_2 (ji50))) ∧ w'.cell? (ad216.add ((ji53)).toNat) = some (.int .i64 (rd x216000_2 (ji53)))) (ds := []) #[false, false, false, false, false, false, false, false, false, false, false, false, false, false, false, false, false] (by kernel_rfl) rfl rfl ⟨(blk_cell BK215.out 0).trans rfl, (blk_cell BK215.out 1).trans rfl, hx216_0, hx217_0⟩ (fun hHeld => ?_); refine with_tabW impl_StackPush.tab5 impl_StackPush.bits5 (fun HT_ HW_ => ?_)
              generalize wr.drew = w64 at HO_216000 HO_216001 BK2 BK4 BK215 HB hx216_0 hx217_0 hHeld ⊢
              refine pure_ (i := 0) (N := some 35) (v := ?_) (a' := ?_) #[true, false, false, false, false, false, false, false, false, false, false, false, false, false, false, false, false] rfl rfl (any_of HT_.out (by kernel_rfl)) (fun _ _ _ h => h) (Or.inl ⟨by rfl, ?_⟩) ?_ ?_
              rotate_left
              ·
               intro w'
               go_simp
               with_reducible rfl
              rotate_left
              ·
               simp only [Act.put, List.setIfInBounds_toArray, List.set_cons_zero, List.set_cons_succ, i64_w, i32_w]
               rfl
              refine pure_ (i := 1) (N := some 36) (v := ?_) (a' := ?_) #[true, true, false, false, false, false, false, false, false, false, false, false, false, false, false, false, false] rfl rfl (any_of HT_.out (by kernel_rfl)) (fun _ _ _ h => h) (Or.inl ⟨by rfl, ?_⟩) ?_ ?_
              rotate_left
              ·
               intro w'
               go_simp
               with_reducible rfl
              rotate_left
              ·
               simp only [Act.put, List.setIfInBounds_toArray, List.set_cons_zero, List.set_cons_succ, i64_w, i32_w]
               rfl
              refine pure_ (i := 2) (N := some 37) (v := ?_) (a' := ?_) #[true, true, true, false, false, false, false, false, false, false, false, false, false, false, false, false, false] rfl rfl (any_of HT_.out (by kernel_rfl)) (fun _ _ _ h => h) (Or.inl ⟨by rfl, ?_⟩) ?_ ?_
              rotate_left
              ·
               intro w'
               go_simp
               with_reducible rfl
              rotate_left
              ·
               simp only [Act.put, List.setIfInBounds_toArray, List.set_cons_zero, List.set_cons_succ, i64_w, i32_w]
               rfl
              refine pure_ (i := 3) (N := some 38) (v := ?_) (a' := ?_) #[true, true, true, true, false, false, false, false, false, false, false, false, false, false, false, false, false] rfl rfl (any_of HT_.out (by kernel_rfl)) (fun _ _ _ h => h) (Or.inl ⟨by rfl, ?_⟩) ?_ ?_
              rotate_left
              ·
               intro w'
               go_simp
               with_reducible rfl
              rotate_left
              ·
               simp only [Act.put, List.setIfInBounds_toArray, List.set_cons_zero, List.set_cons_succ, i64_w, i32_w]
               rfl
              refine pure_ (i := 5) (N := some 40) (v := ?_) (a' := ?_) #[true, true, true, true, false, true, false, false, false, false, false, false, false, false, false, false, false] rfl rfl (any_of HT_.out (by kernel_rfl)) (fun _ _ _ h => h) (Or.inl ⟨by rfl, ?_⟩) ?_ ?_
              rotate_left
              ·
               intro w'
               go_simp
               with_reducible rfl
              rotate_left
              ·
               simp only [Act.put, List.setIfInBounds_toArray, List.set_cons_zero, List.set_cons_succ, i64_w, i32_w]
               rfl
              refine pure_ (i := 6) (N := some 41) (v := ?_) (a' := ?_) #[true, true, true, true, false, true, true, false, false, false, false, false, false, false, false, false, false] rfl rfl (any_of HT_.out (by kernel_rfl)) (fun _ _ _ h => h) (Or.inl ⟨by rfl, ?_⟩) ?_ ?_
              rotate_left
              ·
               intro w'
               go_simp
               with_reducible rfl
              rotate_left
              ·
               simp only [Act.put, List.setIfInBounds_toArray, List.set_cons_zero, List.set_cons_succ, i64_w, i32_w]
               rfl
              refine pure_ (i := 9) (N := some 44) (v := ?_) (a' := ?_) #[true, true, true, true, false, true, true, false, false, true, false, false, false, false, false, false, false] rfl rfl (any_of HT_.out (by kernel_rfl)) (fun _ _ _ h => h) (Or.inl ⟨by rfl, ?_⟩) ?_ ?_
              rotate_left
              ·
               intro w'
               go_simp
               with_reducible rfl
              rotate_left
              ·
               simp only [Act.put, List.setIfInBounds_toArray, List.set_cons_zero, List.set_cons_succ, i64_w, i32_w]
               rfl
              refine pure_ (i := 11) (N := some 46) (v := ?_) (a' := ?_) #[true, true, true, true, false, true, true, false, false, true, false, true, false, false, false, false, false] rfl rfl (any_of HT_.out (by kernel_rfl)) (fun _ _ _ h => h) (Or.inl ⟨by rfl, ?_⟩) ?_ ?_
              rotate_left
              ·
               intro w'
               go_simp
               with_reducible rfl
              rotate_left
              ·
               simp only [Act.put, List.setIfInBounds_toArray, List.set_cons_zero, List.set_cons_succ, i64_w, i32_w]
               rfl
              refine pure_ (i := 12) (N := some 47) (v := ?_) (a' := ?_) #[true, true, true, true, false, true, true, false, false, true, false, true, true, false, false, false, false] rfl rfl (any_of HT_.out (by kernel_rfl)) (fun _ _ _ h => h) (Or.inl ⟨by rfl, ?_⟩) ?_ ?_
              rotate_left
              ·
               intro w'
               go_simp
               with_reducible rfl
              rotate_left
              ·
               simp only [Act.put, List.setIfInBounds_toArray, List.set_cons_zero, List.set_cons_succ, i64_w, i32_w]
               rfl
              refine take_ (i := 4) (N := some 39) (v := ?_) (a' := ?_) #[true, true, true, true, true, true, true, false, false, true, false, true, true, false, false, false, false] rfl rfl (take_ofW HT_.out HW_.out (by kernel_rfl)) (fun _ _ _ h => h) (Or.inl ⟨by rfl, ?_⟩) hHeld ?_ ?_
              rotate_left
              ·
               rintro w' ⟨s0, s1, s2, s3⟩
               go_simp
               with_reducible rfl
              rotate_left
              ·
               simp only [Act.put, List.setIfInBounds_toArray, List.set_cons_zero, List.set_cons_succ, i64_w, i32_w]
               rfl
              refine pure_ (i := 7) (N := some 42) (v := ?_) (a' := ?_) #[true, true, true, true, true, true, true, true, false, true, false, true, true, false, false, false, false] rfl rfl (any_of HT_.out (by kernel_rfl)) (fun _ _ _ h => h) (Or.inl ⟨by rfl, ?_⟩) ?_ ?_
              rotate_left
              ·
               intro w'
               go_simp
               with_reducible rfl
              rotate_left
              ·
               simp only [Act.put, List.setIfInBounds_toArray, List.set_cons_zero, List.set_cons_succ, i64_w, i32_w]
               rfl
              refine take_ (i := 8) (N := some 43) (v := ?_) (a' := ?_) #[true, true, true, true, true, true, true, true, true, true, false, true, true, false, false, false, false] rfl rfl (take_ofW HT_.out HW_.out (by kernel_rfl)) (fun _ _ _ h => h) (Or.inl ⟨by rfl, ?_⟩) hHeld ?_ ?_
              rotate_left
              ·
               rintro w' ⟨s0, s1, s2, s3⟩
               go_simp
               with_reducible rfl
              rotate_left
              ·
               simp only [Act.put, List.setIfInBounds_toArray, List.set_cons_zero, List.set_cons_succ, i64_w, i32_w]
               rfl
              refine take_ (i := 10) (N := some 45) (v := ?_) (a' := ?_) #[true, true, true, true, true, true, true, true, true, true, true, true, true, false, false, false, false] rfl rfl (take_ofW HT_.out HW_.out (by kernel_rfl)) (fun _ _ _ h => h) (Or.inl ⟨by rfl, ?_⟩) hHeld ?_ ?_
              rotate_left
              ·
               rintro w' ⟨s0, s1, s2, s3⟩
               go_simp
               with_reducible rfl
              rotate_left
              ·
               simp only [Act.put, List.setIfInBounds_toArray, List.set_cons_zero, List.set_cons_succ, i64_w, i32_w]
               rfl
              refine pure_ (i := 13) (N := some 48) (v := ?_) (a' := ?_) #[true, true, true, true, true, true, true, true, true, true, true, true, true, true, false, false, false] rfl rfl (any_of HT_.out (by kernel_rfl)) (fun _ _ _ h => h) (Or.inl ⟨by rfl, ?_⟩) ?_ ?_
              rotate_left
              ·
               intro w'
               go_simp
               with_reducible rfl
              rotate_left
              ·
               simp only [Act.put, List.setIfInBounds_toArray, List.set_cons_zero, List.set_cons_succ, i64_w, i32_w]
               rfl
              refine take_ (i := 14) (N := some 49) (v := ?_) (a' := ?_) #[true, true, true, true, true, true, true, true, true, true, true, true, true, true, true, false, false] rfl rfl (take_ofW HT_.out HW_.out (by kernel_rfl)) (fun _ _ _ h => h) (Or.inl ⟨by rfl, ?_⟩) hHeld ?_ ?_
              rotate_left
              ·
               rintro w' ⟨s0, s1, s2, s3⟩
               go_simp
               with_reducible rfl
              rotate_left
              ·
               simp only [Act.put, List.setIfInBounds_toArray, List.set_cons_zero, List.set_cons_succ, i64_w, i32_w]
               rfl
              refine pure_ (i := 15) (N := some 50) (v := ?_) (a' := ?_) #[true, true, true, true, true, true, true, true, true, true, true, true, true, true, true, true, false] rfl rfl (any_of HT_.out (by kernel_rfl)) (fun _ _ _ h => h) (Or.inl ⟨by rfl, ?_⟩) ?_ ?_
              rotate_left
              ·
               intro w'
               go_simp
               with_reducible rfl
              rotate_left
              ·
               simp only [Act.put, List.setIfInBounds_toArray, List.set_cons_zero, List.set_cons_succ, i64_w, i32_w]
               rfl
              refine pure_ (i := 16) (N := some 51) (v := ?_) (a' := ?_) #[true, true, true, true, true, true, true, true, true, true, true, true, true, true, true, true, true] rfl rfl (any_of HT_.out (by kernel_rfl)) (fun _ _ _ h => h) (Or.inl ⟨by rfl, ?_⟩) ?_ ?_
              rotate_left
              ·
               intro w'
               go_simp
               with_reducible rfl
              rotate_left
              ·
               simp only [Act.put, List.setIfInBounds_toArray, List.set_cons_zero, List.set_cons_succ, i64_w, i32_w]
               rfl
              refine done_ (done_of HT_.out (by kernel_rfl)) ?_
              try go_wp2
              have n0_ := Aside0.mk (Kd.R_drew HO_216000.out)
              have n1_ := Aside0.mk (Kd.S_drew HO_216001.out)
              have n2_ := Aside0.mk (blk_drew BK2.out)
              have n3_ := Aside0.mk (blk_drew BK4.out)
              have n4_ := Aside0.mk (blk_drew BK215.out)
              have n5_ := Aside0.mk (below_drew1 HB.out)
              clear HO_216000
              clear HO_216001
              clear BK2
              clear BK4
              clear BK215
              clear HB
              have HO_216000 := n0_
              have HO_216001 := n1_
              have BK2 := n2_
              have BK4 := n3_
              have BK215 := n4_
              have HB := n5_
              clear n0_ n1_ n2_ n3_ n4_ n5_
              obtain ⟨Ao67, co67, eo67⟩ := Kd.S_slice HO_216001.out
              (first | subst eo67 | (injection eo67 with f1_ f2_ f3_; have f4_ := f1_.symm; have f5_ := f3_.symm; clear f1_ f2_ f3_; subst f4_; subst f5_))
              have p218 : 0 ≤ ((ji53) : Int) := of_decide_eq_true asA
              have q218 : (ji53) < (x216001_2.length : Int) := of_decide_eq_true asA
              obtain ⟨ad218, A218_0, c218_0, e218, hx218_0, hl218_0, hi218_0⟩ := at_L2 (Kd.S_reads' HO_216001.out).2.2 (ji53) p218 q218
              cases e218
              obtain ⟨ce218, hce218, hMe218, hcc218⟩ := Kd.N_get (Kd.S_N HO_216001.out) [] (ji53) p218 (by first | exact q218 | exact of_decide_eq_true asA | (have e_ := (Kd.S_reads' HO_216001.out).1; omega))
              obtain ⟨ua218_0, uc218_0, rfl, ul218_0, ge218_0⟩ := Kd.FK_slice_open hMe218
              have hv218_0 := hcc218 0 _ rfl
              rw [Nat.add_zero, show ((Kd.slice 5 (Kd.int .u8))).sz = 1 from rfl, Nat.mul_one] at hv218_0
              replace hv218_0 := Option.some.inj (hv218_0.symm.trans hx218_0)
              injection hv218_0 with hva_ hvn_ hvc_
              rw [hva_] at ge218_0
              rw [hvc_] at ul218_0
              have HL218_0 := Aside0.mk (show Kd.V (Kd.int .u8) 5 _ w.heap.size _ _ (rd_L2 x216001_2 (ji53)) from Kd.V_mk ul218_0 ge218_0)
              clear hva_ hvn_ hvc_ ge218_0 ul218_0
              clear hcc218 hce218
              have HR218_0 := Aside0.mk hi218_0
              have HC218_0 := Aside0.mk hl218_0
              clear hi218_0 hl218_0
              replace p218 := eq_true p218
              replace q218 := eq_true q218
              have p219 : 0 ≤ ((ji50) : Int) := of_decide_eq_true asA
              have q219 : (ji50) < (x216001_2.length : Int) := of_decide_eq_true asA
              obtain ⟨ad219, A219_0, c219_0, e219, hx219_0, hl219_0, hi219_0⟩ := at_L2 (Kd.S_reads' HO_216001.out).2.2 (ji50) p219 q219
              obtain rfl : ad218 = ad219 := (by injection e219)
              obtain ⟨ce219, hce219, hMe219, hcc219⟩ := Kd.N_get (Kd.S_N HO_216001.out) [] (ji50) p219 (by first | exact q219 | exact of_decide_eq_true asA | (have e_ := (Kd.S_reads' HO_216001.out).1; omega))
              obtain ⟨ua219_0, uc219_0, rfl, ul219_0, ge219_0⟩ := Kd.FK_slice_open hMe219
              have hv219_0 := hcc219 0 _ rfl
              rw [Nat.add_zero, show ((Kd.slice 5 (Kd.int .u8))).sz = 1 from rfl, Nat.mul_one] at hv219_0
              replace hv219_0 := Option.some.inj (hv219_0.symm.trans hx219_0)
              injection hv219_0 with hva_ hvn_ hvc_
              rw [hva_] at ge219_0
              rw [hvc_] at ul219_0
              have HL219_0 := Aside0.mk (show Kd.V (Kd.int .u8) 5 _ w.heap.size _ _ (rd_L2 x216001_2 (ji50)) from Kd.V_mk ul219_0 ge219_0)
              clear hva_ hvn_ hvc_ ge219_0 ul219_0
              clear hcc219 hce219
              have HR219_0 := Aside0.mk hi219_0
              have HC219_0 := Aside0.mk hl219_0
              clear hi219_0 hl219_0
              replace p219 := eq_true p219
              replace q219 := eq_true q219
              refine start_ (n := 19) (S := fun w' => w'.cell? ⟨G, 0, none⟩ = some (.slice (some ad216) x216000_2.length co65) ∧ w'.cell? ⟨G, 1, none⟩ = some (.slice (some ad218) x216001_2.length co67) ∧ w'.cell? (ad218.add ((ji53)).toNat) = some (.slice A218_0 (rd_L2 x216001_2 (ji53)).length c218_0) ∧ w'.cell? (ad218.add ((ji50)).toNat) = some (.slice A219_0 (rd_L2 x216001_2 (ji50)).length c219_0)) (ds := [18]) #[false, false, false, false, false, false, false, false, false, false, false, false, false, false, false, false, false, false, false] (by kernel_rfl) rfl rfl ⟨(blk_cell BK215.out 0).trans rfl, (blk_cell BK215.out 1).trans rfl, hx218_0, hx219_0⟩ (fun hHeld => ?_); refine with_tabW impl_StackPush.tab7 impl_StackPush.bits7 (fun HT_ HW_ => ?_)
              generalize w64.drew = w66 at HO_216000 HO_216001 BK2 BK4 BK215 HB HL218_0 HL219_0 HR218_0 HR219_0 hx218_0 hx219_0 hHeld ⊢
              refine pure_ (i := 0) (N := some 54) (v := ?_) (a' := ?_) #[true, false, false, false, false, false, false, false, false, false, false, false, false, false, false, false, false, false, false] rfl rfl (any_of HT_.out (by kernel_rfl)) (fun _ _ _ h => h) (Or.inl ⟨by rfl, ?_⟩) ?_ ?_
              rotate_left
              ·
               intro w'
               go_simp
               with_reducible rfl
              rotate_left
              ·
               simp only [Act.put, List.setIfInBounds_toArray, List.set_cons_zero, List.set_cons_succ, i64_w, i32_w]
               rfl
              refine pure_ (i := 2) (N := some 56) (v := ?_) (a' := ?_) #[true, false, true, false, false, false, false, false, false, false, false, false, false, false, false, false, false, false, false] rfl rfl (any_of HT_.out (by kernel_rfl)) (fun _ _ _ h => h) (Or.inl ⟨by rfl, ?_⟩) ?_ ?_
              rotate_left
              ·
               intro w'
               go_simp
               with_reducible rfl
              rotate_left
              ·
               simp only [Act.put, List.setIfInBounds_toArray, List.set_cons_zero, List.set_cons_succ, i64_w, i32_w]
               rfl
              refine pure_ (i := 3) (N := some 57) (v := ?_) (a' := ?_) #[true, false, true, true, false, false, false, false, false, false, false, false, false, false, false, false, false, false, false] rfl rfl (any_of HT_.out (by kernel_rfl)) (fun _ _ _ h => h) (Or.inl ⟨by rfl, ?_⟩) ?_ ?_
              rotate_left
              ·
               intro w'
               go_simp
               with_reducible rfl
              rotate_left
              ·
               simp only [Act.put, List.setIfInBounds_toArray, List.set_cons_zero, List.set_cons_succ, i64_w, i32_w]
               rfl
              refine pure_ (i := 4) (N := some 58) (v := ?_) (a' := ?_) #[true, false, true, true, true, false, false, false, false, false, false, false, false, false, false, false, false, false, false] rfl rfl (any_of HT_.out (by kernel_rfl)) (fun _ _ _ h => h) (Or.inl ⟨by rfl, ?_⟩) ?_ ?_
              rotate_left
              ·
               intro w'
               go_simp
               with_reducible rfl
              rotate_left
              ·
               simp only [Act.put, List.setIfInBounds_toArray, List.set_cons_zero, List.set_cons_succ, i64_w, i32_w]
               rfl
              refine pure_ (i := 6) (N := some 60) (v := ?_) (a' := ?_) #[true, false, true, true, true, false, true, false, false, false, false, false, false, false, false, false, false, false, false] rfl rfl (any_of HT_.out (by kernel_rfl)) (fun _ _ _ h => h) (Or.inl ⟨by rfl, ?_⟩) ?_ ?_
              rotate_left
              ·
               intro w'
               go_simp
               with_reducible rfl
              rotate_left
              ·
               simp only [Act.put, List.setIfInBounds_toArray, List.set_cons_zero, List.set_cons_succ, i64_w, i32_w]
               rfl
              refine pure_ (i := 7) (N := some 61) (v := ?_) (a' := ?_) #[true, false, true, true, true, false, true, true, false, false, false, false, false, false, false, false, false, false, false] rfl rfl (any_of HT_.out (by kernel_rfl)) (fun _ _ _ h => h) (Or.inl ⟨by rfl, ?_⟩) ?_ ?_
              rotate_left
              ·
               intro w'
               go_simp
               with_reducible rfl
              rotate_left
              ·
               simp only [Act.put, List.setIfInBounds_toArray, List.set_cons_zero, List.set_cons_succ, i64_w, i32_w]
               rfl
              refine pure_ (i := 10) (N := some 64) (v := ?_) (a' := ?_) #[true, false, true, true, true, false, true, true, false, false, true, false, false, false, false, false, false, false, false] rfl rfl (any_of HT_.out (by kernel_rfl)) (fun _ _ _ h => h) (Or.inl ⟨by rfl, ?_⟩) ?_ ?_
              rotate_left
              ·
               intro w'
               go_simp
               with_reducible rfl
              rotate_left
              ·
               simp only [Act.put, List.setIfInBounds_toArray, List.set_cons_zero, List.set_cons_succ, i64_w, i32_w]
               rfl
              refine pure_ (i := 12) (N := some 66) (v := ?_) (a' := ?_) #[true, false, true, true, true, false, true, true, false, false, true, false, true, false, false, false, false, false, false] rfl rfl (any_of HT_.out (by kernel_rfl)) (fun _ _ _ h => h) (Or.inl ⟨by rfl, ?_⟩) ?_ ?_
              rotate_left
              ·
               intro w'
               go_simp
               with_reducible rfl
              rotate_left
              ·
               simp only [Act.put, List.setIfInBounds_toArray, List.set_cons_zero, List.set_cons_succ, i64_w, i32_w]
               rfl
              refine pure_ (i := 13) (N := some 67) (v := ?_) (a' := ?_) #[true, false, true, true, true, false, true, true, false, false, true, false, true, true, false, false, false, false, false] rfl rfl (any_of HT_.out (by kernel_rfl)) (fun _ _ _ h => h) (Or.inl ⟨by rfl, ?_⟩) ?_ ?_
              rotate_left
              ·
               intro w'
               go_simp
               with_reducible rfl
              rotate_left
              ·
               simp only [Act.put, List.setIfInBounds_toArray, List.set_cons_zero, List.set_cons_succ, i64_w, i32_w]
               rfl
              refine take_ (i := 1) (N := some 55) (v := ?_) (a' := ?_) #[true, true, true, true, true, false, true, true, false, false, true, false, true, true, false, false, false, false, false] rfl rfl (take_ofW HT_.out HW_.out (by kernel_rfl)) (fun _ _ _ h => h) (Or.inl ⟨by rfl, ?_⟩) hHeld ?_ ?_
              rotate_left
              ·
               rintro w' ⟨s0, s1, s2, s3⟩
               go_simp
               with_reducible rfl
              rotate_left
              ·
               simp only [Act.put, List.setIfInBounds_toArray, List.set_cons_zero, List.set_cons_succ, i64_w, i32_w]
               rfl
              refine take_ (i := 5) (N := some 59) (v := ?_) (a' := ?_) #[true, true, true, true, true, true, true, true, false, false, true, false, true, true, false, false, false, false, false] rfl rfl (take_ofW HT_.out HW_.out (by kernel_rfl)) (fun _ _ _ h => h) (Or.inl ⟨by rfl, ?_⟩) hHeld ?_ ?_
              rotate_left
              ·
               rintro w' ⟨s0, s1, s2, s3⟩
               go_simp
               with_reducible rfl
              rotate_left
              ·
               simp only [Act.put, List.setIfInBounds_toArray, List.set_cons_zero, List.set_cons_succ, i64_w, i32_w]
               rfl
              refine pure_ (i := 8) (N := some 62) (v := ?_) (a' := ?_) #[true, true, true, true, true, true, true, true, true, false, true, false, true, true, false, false, false, false, false] rfl rfl (any_of HT_.out (by kernel_rfl)) (fun _ _ _ h => h) (Or.inl ⟨by rfl, ?_⟩) ?_ ?_
              rotate_left
              ·
               intro w'
               go_simp
               with_reducible rfl
              rotate_left
              ·
               simp only [Act.put, List.setIfInBounds_toArray, List.set_cons_zero, List.set_cons_succ, i64_w, i32_w]
               rfl
              refine take_ (i := 9) (N := some 63) (v := ?_) (a' := ?_) #[true, true, true, true, true, true, true, true, true, true, true, false, true, true, false, false, false, false, false] rfl rfl (take_ofW HT_.out HW_.out (by kernel_rfl)) (fun _ _ _ h => h) (Or.inl ⟨by rfl, ?_⟩) hHeld ?_ ?_
              rotate_left
              ·
               rintro w' ⟨s0, s1, s2, s3⟩
               go_simp
               with_reducible rfl
              rotate_left
              ·
               simp only [Act.put, List.setIfInBounds_toArray, List.set_cons_zero, List.set_cons_succ, i64_w, i32_w]
               rfl
              refine take_ (i := 11) (N := some 65) (v := ?_) (a' := ?_) #[true, true, true, true, true, true, true, true, true, true, true, true, true, true, false, false, false, false, false] rfl rfl (take_ofW HT_.out HW_.out (by kernel_rfl)) (fun _ _ _ h => h) (Or.inl ⟨by rfl, ?_⟩) hHeld ?_ ?_
              rotate_left
              ·
               rintro w' ⟨s0, s1, s2, s3⟩
               go_simp
               with_reducible rfl
              rotate_left
              ·
               simp only [Act.put, List.setIfInBounds_toArray, List.set_cons_zero, List.set_cons_succ, i64_w, i32_w]
               rfl
              refine pure_ (i := 14) (N := some 68) (v := ?_) (a' := ?_) #[true, true, true, true, true, true, true, true, true, true, true, true, true, true, true, false, false, false, false] rfl rfl (any_of HT_.out (by kernel_rfl)) (fun _ _ _ h => h) (Or.inl ⟨by rfl, ?_⟩) ?_ ?_
              rotate_left
              ·
               intro w'
               go_simp
               with_reducible rfl
              rotate_left
              ·
               simp only [Act.put, List.setIfInBounds_toArray, List.set_cons_zero, List.set_cons_succ, i64_w, i32_w]
               rfl
              refine take_ (i := 15) (N := some 69) (v := ?_) (a' := ?_) #[true, true, true, true, true, true, true, true, true, true, true, true, true, true, true, true, false, false, false] rfl rfl (take_ofW HT_.out HW_.out (by kernel_rfl)) (fun _ _ _ h => h) (Or.inl ⟨by rfl, ?_⟩) hHeld ?_ ?_
              rotate_left
              ·
               rintro w' ⟨s0, s1, s2, s3⟩
               go_simp
               with_reducible rfl
              rotate_left
              ·
               simp only [Act.put, List.setIfInBounds_toArray, List.set_cons_zero, List.set_cons_succ, i64_w, i32_w]
               rfl
              refine one_ (i := 16) (N := some 70) #[true, true, true, true, true, true, true, true, true, true, true, true, true, true, true, true, true, false, false] rfl rfl (one_of HT_.out (by kernel_rfl)) (by decide) (fun K hK => ?_)
              refine goes_ Try.func33 (by kernel_rfl) rfl #[.slice A218_0 (rd_L2 x216001_2 (ji53)).length c218_0, .slice A219_0 (rd_L2 x216001_2 (ji50)).length c219_0] (by rfl) rfl rfl (by (try simp only [List.map_toArray, List.map_cons, List.map_nil]); first | done | (simp only [hji50, hji53]; rfl) | rfl | (simp only [List.length_drop, List.length_take]; rfl)) ?_
              with_reducible refine (impl_NodeHash.calls k2 _ _ (rd_L2 x216001_2 (ji53)) _ _ (rd_L2 x216001_2 (ji50)) t220 _ ?side1 ?side2 ?side3 ?side4 A59.out).mono ?_
              (case side1 => repeat (first | exact (by repeat (first | (with_reducible exact HR218_0.out) | (with_reducible refine Kd.C_alloc ?_ _) | (with_reducible refine Kd.C_drewN ?_ _) | (with_reducible refine Kd.C_drew ?_) | exact HR218_0.out)) | (with_reducible refine Kd.C_alloc ?_ _) | (with_reducible refine Kd.C_drewN ?_ _) | (with_reducible refine Kd.C_drew ?_)))
              (case side2 => exact HC218_0.out)
              (case side3 => repeat (first | exact (by repeat (first | (with_reducible exact HR219_0.out) | (with_reducible refine Kd.C_alloc ?_ _) | (with_reducible refine Kd.C_drewN ?_ _) | (with_reducible refine Kd.C_drew ?_) | exact HR219_0.out)) | (with_reducible refine Kd.C_alloc ?_ _) | (with_reducible refine Kd.C_drewN ?_ _) | (with_reducible refine Kd.C_drew ?_)))
              (case side4 => exact HC219_0.out)
              rintro e w68 ⟨v221, rfl, ho0, hb⟩
              have HS2_ := (hb.cell (World.block_lt_of_cell? _ _ (hHeld.2.2.1))).trans (hHeld.2.2.1)
              have HS3_ := (hb.cell (World.block_lt_of_cell? _ _ (hHeld.2.2.2))).trans (hHeld.2.2.2)
              refine ⟨_, rfl, ?_⟩
              have n0_ := Aside0.mk (Kd.R_below (rA HO_216000.out) hb)
              have n1_ := Aside0.mk (Kd.S_elder' (sA HO_216001.out) (Kd.R_base ho0) hb)
              have n2_ := Aside0.mk (Kd.V_elder' (by (with_reducible repeat (first | apply Kd.V_alloc | apply Kd.V_drewN | apply Kd.V_drew)); exact HL218_0.out) (Kd.R_base ho0) hb)
              have n3_ := Aside0.mk (Kd.V_elder' (by (with_reducible repeat (first | apply Kd.V_alloc | apply Kd.V_drewN | apply Kd.V_drew)); exact HL219_0.out) (Kd.R_base ho0) hb)
              have n4_ := Aside0.mk (Kd.R_lower (Kd.R_newM (M := fun k_ => (w.heap.size ≤ k_)) ho0 (below_size (hbA HB)) (fun k_ h_ => h_)) (below_size (hbA HB)))
              have n5_ := Aside0.mk (blk_below (g := g2) (o := .cells #[.slice A0 l0.length c0, .slice A1 l1.length c1] 50 (0, 0)) (bkA BK2.out) hb)
              have n6_ := Aside0.mk (blk_below (g := g4) (o := .cells #[.slice none 0 0, .slice none 0 0] 50 (0, 0)) (bkA BK4.out) hb)
              have n7_ := Aside0.mk (blk_below (g := G) (o := .cells #[.slice (some ad216) x216000_2.length co65, .slice (some ad218) x216001_2.length co67] 50 (0, 0)) (bkA BK215.out) hb)
              have n8_ := Aside0.mk (Kd.C_below (by repeat (first | (with_reducible exact HR218_0.out) | (with_reducible refine Kd.C_alloc ?_ _) | (with_reducible refine Kd.C_drewN ?_ _) | (with_reducible refine Kd.C_drew ?_) | exact HR218_0.out)) hb)
              have n9_ := Aside0.mk (Kd.C_below (by repeat (first | (with_reducible exact HR219_0.out) | (with_reducible refine Kd.C_alloc ?_ _) | (with_reducible refine Kd.C_drewN ?_ _) | (with_reducible refine Kd.C_drew ?_) | exact HR219_0.out)) hb)
              have n10_ := Aside0.mk (below_step (hbA HB) hb)
              clear HO_216000
              clear HO_216001
              clear HL218_0
              clear HL219_0
              clear BK2
              clear BK4
              clear BK215
              clear HR218_0
              clear HR219_0
              clear HB
              have HO_216000 := n0_
              have HO_216001 := n1_
              have HL218_0 := n2_
              have HL219_0 := n3_
              have HO222 := n4_
              have BK2 := n5_
              have BK4 := n6_
              have BK215 := n7_
              have HR218_0 := n8_
              have HR219_0 := n9_
              have HB := n10_
              clear n0_ n1_ n2_ n3_ n4_ n5_ n6_ n7_ n8_ n9_ n10_
              (try clear hb)
              (try clear hb2)
              (try clear hk)
              (try clear hi)
              (try clear ho0)
              have p60 : 0 ≤ ((ji53) : Int) := of_decide_eq_true asA
              have q60 : ((ji53) : Int) < ((x216001_2.length : Int) : Int) := of_decide_eq_true asA
              obtain ⟨go60, co60, eo60, gb60, gl60, cl60, HG60⟩ := Kd.S_form HO_216001.out (by omega)
              (first | cases eo60 | (injection eo60 with ea_ en_ ec_; (first | subst ea_ | (injection ea_ with ea_; subst ea_)); subst ec_; clear en_))
              have GB60 := Aside0.mk gb60
              have GG60 := Aside0.mk HG60
              clear gb60 gl60 HG60
              (first | simp only [add_plain] at hx218_0 | skip)
              (first | simp only [add_plain] at hx219_0 | skip)
              obtain ⟨ce60, hcl60, hM60, hcc60, hfr60⟩ := Kd.N_elem (Kd.S_N HO_216001.out) [] ((ji53) : Int) p60 q60
              obtain ⟨ua60_0, uc60_0, rfl, ul60_0, ge60_0⟩ := Kd.FK_slice_open hM60
              have hx60_0 := hcc60 0 _ rfl
              have hf60_0 := hfr60 0
              (try simp only [show ((Kd.slice 5 (Kd.int .u8))).sz = 1 from rfl, Nat.mul_one, Nat.add_zero] at hx60_0)
              (try simp only [show ((Kd.slice 5 (Kd.int .u8))).sz = 1 from rfl, Nat.mul_one, Nat.add_zero] at hf60_0)
              (try clear hcl60); (try clear hcc60); (try clear hfr60); (try clear hM60)
              replace p60 := eq_true p60
              replace q60 := eq_true q60
              have HQ69 := Aside0.mk (ShaBase.S_put1 HO_216001.out (ji53) (of_decide_eq_true asA) (of_decide_eq_true asA) (Kd.R_mono (ok' := (fun k_ => ((fun k_ => (w.heap.size ≤ k_) ∧ some k_ ≠ (.slice (some ad216) x216000_2.length co65 : Value).ownBlock ∧ k_ ≠ g2 ∧ k_ ≠ g4 ∧ k_ ≠ G)) k_ ∧ k_ ≠ go60)) (Kd.R_types (Kd.R_types (Kd.R_types (Kd.R_apart' (Kd.R_apart' (HO222.out) (Kd.R_typed HO_216000.out) (by decide)) (Kd.S_typed HO_216001.out) (by decide)) BK2.out (by decide)) BK4.out (by decide)) BK215.out (by decide)) (fun k_ hk => ⟨⟨hk.1.1.1.1.1.1, ⟨hk.1.1.1.1.2, ⟨hk.1.1.2, ⟨hk.1.2, hk.2⟩⟩⟩⟩, fun e_ => (hk.1.1.1.2) (by rw [e_]; rfl)⟩)) (fun _ hk => hk))
              rw [← Ny223.out] at HQ69
              refine hK.out _ _ ⟨(blk_cell BK215.out 0).trans rfl, (blk_cell BK215.out 1).trans rfl, HS2_, HS3_⟩ (fun hHeld => ?_)
              clear hK K
              refine norm_ (a' := ?_) ?_ ?_
              rotate_left
              ·
               show Act.put _ (some 70) _ = _
               simp only [Act.put, List.setIfInBounds_toArray, List.set_cons_zero, List.set_cons_succ, i64_w, i32_w]
               rfl
              refine pure_ (i := 17) (N := some 71) (v := ?_) (a' := ?_) #[true, true, true, true, true, true, true, true, true, true, true, true, true, true, true, true, true, true, false] rfl rfl (any_of HT_.out (by kernel_rfl)) (fun _ _ _ h => h) (Or.inl ⟨by rfl, ?_⟩) ?_ ?_
              rotate_left
              ·
               intro w'
               go_simp
               with_reducible rfl
              rotate_left
              ·
               simp only [Act.put, List.setIfInBounds_toArray, List.set_cons_zero, List.set_cons_succ, i64_w, i32_w]
               rfl
              refine last_ (i := 18) (N := none) #[true, true, true, true, true, true, true, true, true, true, true, true, true, true, true, true, true, true, true] rfl rfl (one_of HT_.out (by kernel_rfl)) (by decide) (fun K hK => ?_)
              refine skip_ (w1 := w68.setCell ⟨go60, ((ji53) : Int).toNat, none⟩ v221) (by rfl) rfl ?_ ?_
              ·
               obtain ⟨Av_, cv_, ev_⟩ := Kd.R_slice HO222.out
               subst ev_
               go_simp
              refine hK.out _ _ ?_
              clear hK K
              refine done_ (done_of HT_.out (by kernel_rfl)) ?_
              have n0_ : Aside0 (Kd.R (Kd.int .i64) 3 (w68.setCell ⟨go60, ((ji53) : Int).toNat, none⟩ (v221)) w.heap.size (fun k_ => (w.heap.size ≤ k_)) (.slice (some ad216) x216000_2.length co65) x216000_2) := ⟨by (with_reducible repeat (first | apply Kd.R_alloc | apply Kd.R_drewN | apply Kd.R_drew)); exact Kd.R_mono (Kd.R_far (p := ⟨go60, ((ji53) : Int).toNat, none⟩) (Kd.R_types HO_216000.out GG60.out (by decide)) (fun _ hk => hk.2) (v221)) (fun _ hk => hk.1)⟩
              have n1_ : Aside0 (Kd.S (Kd.slice 5 (Kd.int .u8)) 23 (w68.setCell ⟨go60, ((ji53) : Int).toNat, none⟩ (v221)) w.heap.size (fun k_ => (w.heap.size ≤ k_) ∧ some k_ ≠ (.slice (some ad216) x216000_2.length co65 : Value).ownBlock ∧ k_ ≠ g2 ∧ k_ ≠ g4 ∧ k_ ≠ G) (.slice (some ⟨go60, 0, none⟩) x216001_2.length co67) y223) := ⟨sA HQ69.out⟩
              have n2_ : Aside0 (Kd.V (Kd.int .u8) 5 (w68.setCell ⟨go60, ((ji53) : Int).toNat, none⟩ (v221)) w.heap.size (fun k_ => (w.heap.size ≤ k_) ∧ some k_ ≠ (.slice (some ad216) x216000_2.length co65 : Value).ownBlock ∧ some k_ ≠ (.slice (some ⟨go60, 0, none⟩) x216001_2.length co67 : Value).ownBlock ∧ k_ ≠ g2 ∧ k_ ≠ g4 ∧ k_ ≠ G) (.slice A218_0 (rd_L2 x216001_2 (ji53)).length c218_0) (rd_L2 x216001_2 (ji53))) := ⟨by (with_reducible repeat (first | apply Kd.V_alloc | apply Kd.V_drewN | apply Kd.V_drew)); exact Kd.V_mono (Kd.V_far (p := ⟨go60, ((ji53) : Int).toNat, none⟩) (Kd.V_mono HL218_0.out (fun k_ hk => (⟨hk, fun e_ => hk.1.2 (by rw [e_]; rfl)⟩ : _ ∧ k_ ≠ go60))) (fun _ hk => hk.2) (v221)) (fun _ hk => ⟨hk.1.1.1.1, ⟨hk.1.1.1.2.1, ⟨hk.1.1.2, ⟨hk.1.1.1.2.2.1, ⟨hk.1.1.1.2.2.2.1, hk.1.1.1.2.2.2.2⟩⟩⟩⟩⟩)⟩
              have n3_ : Aside0 (Kd.V (Kd.int .u8) 5 (w68.setCell ⟨go60, ((ji53) : Int).toNat, none⟩ (v221)) w.heap.size (fun k_ => (w.heap.size ≤ k_) ∧ some k_ ≠ (.slice (some ad216) x216000_2.length co65 : Value).ownBlock ∧ some k_ ≠ (.slice (some ⟨go60, 0, none⟩) x216001_2.length co67 : Value).ownBlock ∧ k_ ≠ g2 ∧ k_ ≠ g4 ∧ k_ ≠ G) (.slice A219_0 (rd_L2 x216001_2 (ji50)).length c219_0) (rd_L2 x216001_2 (ji50))) := ⟨by (with_reducible repeat (first | apply Kd.V_alloc | apply Kd.V_drewN | apply Kd.V_drew)); exact Kd.V_mono (Kd.V_far (p := ⟨go60, ((ji53) : Int).toNat, none⟩) (Kd.V_mono HL219_0.out (fun k_ hk => (⟨hk, fun e_ => hk.1.2 (by rw [e_]; rfl)⟩ : _ ∧ k_ ≠ go60))) (fun _ hk => hk.2) (v221)) (fun _ hk => ⟨hk.1.1.1.1, ⟨hk.1.1.1.2.1, ⟨hk.1.1.2, ⟨hk.1.1.1.2.2.1, ⟨hk.1.1.1.2.2.2.1, hk.1.1.1.2.2.2.2⟩⟩⟩⟩⟩)⟩
              have n4_ : Aside0 ((w68.setCell ⟨go60, ((ji53) : Int).toNat, none⟩ (v221)).heap[g2]? = some (.cells #[.slice A0 l0.length c0, .slice A1 l1.length c1] 50 (0, 0))) := ⟨by (with_reducible repeat (first | refine blk_drewN ?_ _ | refine blk_drew ?_ | refine blk_alloc ?_ _)); refine blk_far ?_ (by have h_ := Kd.S_away HO_216001.out (fun _ hk => hk.1.2.2.1); intro e_; exact h_ (by rw [e_]; rfl)) _; (with_reducible repeat (first | refine blk_drewN ?_ _ | refine blk_drew ?_ | refine blk_alloc ?_ _)); exact BK2.out⟩
              have n5_ : Aside0 ((w68.setCell ⟨go60, ((ji53) : Int).toNat, none⟩ (v221)).heap[g4]? = some (.cells #[.slice none 0 0, .slice none 0 0] 50 (0, 0))) := ⟨by (with_reducible repeat (first | refine blk_drewN ?_ _ | refine blk_drew ?_ | refine blk_alloc ?_ _)); refine blk_far ?_ (by have h_ := Kd.S_away HO_216001.out (fun _ hk => hk.1.2.2.2.1); intro e_; exact h_ (by rw [e_]; rfl)) _; (with_reducible repeat (first | refine blk_drewN ?_ _ | refine blk_drew ?_ | refine blk_alloc ?_ _)); exact BK4.out⟩
              have n6_ : Aside0 ((w68.setCell ⟨go60, ((ji53) : Int).toNat, none⟩ (v221)).heap[G]? = some (.cells #[.slice (some ad216) x216000_2.length co65, .slice (some ⟨go60, 0, none⟩) x216001_2.length co67] 50 (0, 0))) := ⟨by (with_reducible repeat (first | refine blk_drewN ?_ _ | refine blk_drew ?_ | refine blk_alloc ?_ _)); refine blk_far ?_ (by have h_ := Kd.S_away HO_216001.out (fun _ hk => hk.1.2.2.2.2); intro e_; exact h_ (by rw [e_]; rfl)) _; (with_reducible repeat (first | refine blk_drewN ?_ _ | refine blk_drew ?_ | refine blk_alloc ?_ _)); exact BK215.out⟩
              have n7_ : Aside0 (Below w.heap.size w (w68.setCell ⟨go60, ((ji53) : Int).toNat, none⟩ (v221))) := ⟨hbA HB⟩
              (try clear HO_216000)
              (try clear HO_216001)
              (try clear HL218_0)
              (try clear HL219_0)
              (try clear BK2)
              (try clear BK4)
              (try clear BK215)
              (try clear HB)
              generalize (w68.setCell ⟨go60, ((ji53) : Int).toNat, none⟩ (v221)) = w70 at n0_ n1_ n2_ n3_ n4_ n5_ n6_ n7_ ⊢
              have HO_216000 := n0_
              have HO_216001 := n1_
              have HL218_0 := n2_
              have HL219_0 := n3_
              have BK2 := n4_
              have BK4 := n5_
              have BK215 := n6_
              have HB := n7_
              clear n0_ n1_ n2_ n3_ n4_ n5_ n6_ n7_
              have hnb71 := NB215_187.out
              have hnc71 := NB187_215.out
              have hnb72 := NB215_188.out
              have hnc72 := NB188_215.out
              have hcz73_0 : w70.cell? ⟨G, 0, none⟩ = some (.slice (some ad216) x216000_2.length co65) := (blk_cell BK215.out 0).trans rfl
              have hcz73_1 : w70.cell? ⟨G, 1, none⟩ = some (.slice (some ⟨go60, 0, none⟩) x216001_2.length co67) := (blk_cell BK215.out 1).trans rfl
              have hfz73_0 := blk_frozen BK215.out 0
              have hfz73_1 := blk_frozen BK215.out 1
              have p224 : 0 ≤ ((ji53) : Int) := of_decide_eq_true asA
              have q224 : (ji53) < (x216000_2.length : Int) := of_decide_eq_true asA
              obtain ⟨ad224, e224, hx224_0⟩ := Kd.at_int (Kd.R_reads' HO_216000.out).2.2 (ji53) p224 q224
              obtain rfl : ad216 = ad224 := (by injection e224)
              replace p224 := eq_true p224
              replace q224 := eq_true q224
              have p61 : 0 ≤ ((ji53) : Int) := of_decide_eq_true asA
              have q61 : ((ji53) : Int) < ((x216000_2.length : Int) : Int) := of_decide_eq_true asA
              obtain ⟨go61, co61, eo61, gb61, gl61, cl61, HG61⟩ := Kd.R_form HO_216000.out (by omega)
              (first | cases eo61 | (injection eo61 with ea_ en_ ec_; (first | subst ea_ | (injection ea_ with ea_; subst ea_)); subst ec_; clear en_))
              have GB61 := Aside0.mk gb61
              have GG61 := Aside0.mk HG61
              clear gb61 gl61 HG61
              (first | simp only [add_plain] at hx216_0 | skip)
              (first | simp only [add_plain] at hx217_0 | skip)
              (first | simp only [add_plain] at hx224_0 | skip)
              obtain ⟨hx61_0, hf61_0⟩ := Kd.R_celln 0 HO_216000.out ((ji53) : Int) p61 q61
              replace p61 := eq_true p61
              replace q61 := eq_true q61
              obtain ⟨hy74_, hz74_⟩ := Kd.R_celln 0 HO_216000.out ((ji53) : Int) (of_decide_eq_true asA) (of_decide_eq_true asA)
              have HP74 := Kd.R_putg HO_216000.out ((ji53) : Int) (wrap64 ((rd x216000_2 (ji53)) + 1))
              try go_wp2_with (first | ((with_reducible refine gate_store (t := 3) (p := 79) rfl ?_); refine store_event (t := 3) (p := 79) (v := ?vo_w75) (w1 := (w70.setCell ⟨go61, ((ji53) : Int).toNat, none⟩ (.int .i64 (wrap64 ((rd x216000_2 (ji53)) + 1))))) ?hg ?ho ?hn ?hr ?_; (case ho => rfl); (case hg => rfl); (case hn => rfl); (case hr => first | (go_simp; done) | (go_simp; rfl)); intro w75 hw; have hg : w70.grownBy w75 (some go61) := (by rw [hw]; exact HP74.2); have hp_ : Kd.R (Kd.int .i64) 3 w75 w.heap.size (fun k_ => (w.heap.size ≤ k_)) (.slice (some ⟨go61, 0, none⟩) x216000_2.length co65) y225 := (by rw [hw, Ny225.out]; exact HP74.1); clear HP74; have n0_ := Aside0.mk (hp_); have n1_ := Aside0.mk (Kd.S_after (v := (.slice (some ⟨go61, 0, none⟩) x216000_2.length co65)) (v1 := (.slice (some ⟨go61, 0, none⟩) x216000_2.length co65)) (ok := (fun k_ => (w.heap.size ≤ k_) ∧ k_ ≠ g2 ∧ k_ ≠ g4 ∧ k_ ≠ G)) (by (with_reducible repeat (first | apply Kd.S_alloc | apply Kd.S_drewN | apply Kd.S_drew)); exact Kd.S_mono HO_216001.out (fun _ hk => ⟨⟨hk.1, ⟨hk.2.2.1, ⟨hk.2.2.2.1, hk.2.2.2.2⟩⟩⟩, hk.2.1⟩)) hg (.inl rfl)); have n2_ := Aside0.mk (blk_grown (g := g2) (o := .cells #[.slice A0 l0.length c0, .slice A1 l1.length c1] 50 (0, 0)) (bkA BK2.out) hg (Kd.R_ne HO_216000.out BK2.out (by decide))); have n3_ := Aside0.mk (blk_grown (g := g4) (o := .cells #[.slice none 0 0, .slice none 0 0] 50 (0, 0)) (bkA BK4.out) hg (Kd.R_ne HO_216000.out BK4.out (by decide))); have n4_ := Aside0.mk (blk_grown (g := G) (o := .cells #[.slice (some ⟨go61, 0, none⟩) x216000_2.length co65, .slice (some ⟨go60, 0, none⟩) x216001_2.length co67] 50 (0, 0)) (bkA BK215.out) hg (Kd.R_ne HO_216000.out BK215.out (by decide))); have n5_ := Aside0.mk (Kd.V_afterv (v := (.slice (some ⟨go61, 0, none⟩) x216000_2.length co65)) (v1 := (.slice (some ⟨go61, 0, none⟩) x216000_2.length co65)) (ok := (fun k_ => (w.heap.size ≤ k_) ∧ some k_ ≠ (.slice (some ⟨go60, 0, none⟩) x216001_2.length co67 : Value).ownBlock ∧ k_ ≠ g2 ∧ k_ ≠ g4 ∧ k_ ≠ G)) (by (with_reducible repeat (first | apply Kd.V_alloc | apply Kd.V_drewN | apply Kd.V_drew)); exact Kd.V_mono HL218_0.out (fun _ hk => ⟨⟨hk.1, ⟨hk.2.2.1, ⟨hk.2.2.2.1, ⟨hk.2.2.2.2.1, hk.2.2.2.2.2⟩⟩⟩⟩, hk.2.1⟩)) hg (.inl rfl)); have n6_ := Aside0.mk (Kd.V_afterv (v := (.slice (some ⟨go61, 0, none⟩) x216000_2.length co65)) (v1 := (.slice (some ⟨go61, 0, none⟩) x216000_2.length co65)) (ok := (fun k_ => (w.heap.size ≤ k_) ∧ some k_ ≠ (.slice (some ⟨go60, 0, none⟩) x216001_2.length co67 : Value).ownBlock ∧ k_ ≠ g2 ∧ k_ ≠ g4 ∧ k_ ≠ G)) (by (with_reducible repeat (first | apply Kd.V_alloc | apply Kd.V_drewN | apply Kd.V_drew)); exact Kd.V_mono HL219_0.out (fun _ hk => ⟨⟨hk.1, ⟨hk.2.2.1, ⟨hk.2.2.2.1, ⟨hk.2.2.2.2.1, hk.2.2.2.2.2⟩⟩⟩⟩, hk.2.1⟩)) hg (.inl rfl)); have n7_ := Aside0.mk ((by rw [hw]; exact below_set (HB.out) GB61.out : Below w.heap.size w w75)); clear HO_216000; clear HO_216001; clear BK2; clear BK4; clear BK215; clear HL218_0; clear HL219_0; clear HB; have HO_216000 := n0_; have HO_216001 := n1_; have BK2 := n2_; have BK4 := n3_; have BK215 := n4_; have HL218_0 := n5_; have HL219_0 := n6_; have HB := n7_; clear n0_ n1_ n2_ n3_ n4_ n5_ n6_ n7_; clear hg hw hp_))
              have n0_ := Aside0.mk (Kd.R_drew HO_216000.out)
              have n1_ := Aside0.mk (Kd.S_drew HO_216001.out)
              have n2_ := Aside0.mk (Kd.V_drew HL218_0.out)
              have n3_ := Aside0.mk (Kd.V_drew HL219_0.out)
              have n4_ := Aside0.mk (blk_drew BK2.out)
              have n5_ := Aside0.mk (blk_drew BK4.out)
              have n6_ := Aside0.mk (blk_drew BK215.out)
              have n7_ := Aside0.mk (below_drew1 HB.out)
              clear HO_216000
              clear HO_216001
              clear HL218_0
              clear HL219_0
              clear BK2
              clear BK4
              clear BK215
              clear HB
              have HO_216000 := n0_
              have HO_216001 := n1_
              have HL218_0 := n2_
              have HL219_0 := n3_
              have BK2 := n4_
              have BK4 := n5_
              have BK215 := n6_
              have HB := n7_
              clear n0_ n1_ n2_ n3_ n4_ n5_ n6_ n7_
              have hyl0 : y225.length = x216000_2.length := (by rw [Ny225.out, List.length_set])
              have hyl1 : y223.length = x216001_2.length := (by rw [Ny223.out, List.length_set])
              have q77 : ((ji50) : Int) ≤ ((x216000_2.length : Int) : Int) := of_decide_eq_true asA
              obtain ⟨i077, hi077, _, hsz77, _⟩ := info_parts info3
              have hcut77 := cut_to (P := Try.prog) 22 3 .i64 Try.underlying22 hi077 (some ⟨go61, 0, none⟩) x216000_2.length co65 (ji50) (of_decide_eq_true asA) q77 (Kd.R_reads' HO_216000.out).2.1
              have hr77 := Kd.R_take (m := ((ji50) : Int).toNat) HO_216000.out (by omega)
              have hy77 : y226.length = ((ji50) : Int).toNat := (by rw [Ny226.out, List.length_take]; omega)
              rw [← Ny226.out] at hr77
              rw [← hy77] at hr77 hcut77
              clear hy77 hi077 hsz77 HO_216000
              have HO228 := Aside0.mk hr77
              clear hr77
              replace q77 := eq_true q77
              have q78 : ((ji50) : Int) ≤ ((x216001_2.length : Int) : Int) := of_decide_eq_true asA
              obtain ⟨i078, hi078, _, hsz78, _⟩ := info_parts info23
              have hcut78 := cut_to (P := Try.prog) 38 23 .i64 Try.underlying38 hi078 (some ⟨go60, 0, none⟩) x216001_2.length co67 (ji50) (of_decide_eq_true asA) q78 (Kd.S_reads' HO_216001.out).2.1
              have hr78 := Kd.S_take (m := ((ji50) : Int).toNat) HO_216001.out (by omega)
              have hy78 : y229.length = ((ji50) : Int).toNat := (by rw [Ny229.out, List.length_take]; omega)
              rw [← Ny229.out] at hr78
              rw [← hy78] at hr78 hcut78
              clear hy78 hi078 hsz78 HO_216001
              have HO231 := Aside0.mk hr78
              clear hr78
              replace q78 := eq_true q78
              refine start_ (n := 14) (S := fun w' => w'.cell? ⟨G, 0, none⟩ = some (.slice (some ⟨go61, 0, none⟩) x216000_2.length co65) ∧ w'.cell? ⟨G, 1, none⟩ = some (.slice (some ⟨go60, 0, none⟩) x216001_2.length co67)) (ds := [11, 13]) #[false, false, false, false, false, false, false, false, false, false, false, false, false, false] (by kernel_rfl) rfl rfl ⟨(blk_cell BK215.out 0).trans rfl, (blk_cell BK215.out 1).trans rfl⟩ (fun hHeld => ?_); refine with_tabW impl_StackPush.tab9 impl_StackPush.bits9 (fun HT_ HW_ => ?_)
              generalize w75.drew = w76 at HL218_0 HL219_0 BK2 BK4 BK215 HB HO228 HO231 hHeld ⊢
              refine pure_ (i := 0) (N := some 80) (v := ?_) (a' := ?_) #[true, false, false, false, false, false, false, false, false, false, false, false, false, false] rfl rfl (any_of HT_.out (by kernel_rfl)) (fun _ _ _ h => h) (Or.inl ⟨by rfl, ?_⟩) ?_ ?_
              rotate_left
              ·
               intro w'
               go_simp
               with_reducible rfl
              rotate_left
              ·
               simp only [Act.put, List.setIfInBounds_toArray, List.set_cons_zero, List.set_cons_succ, i64_w, i32_w]
               rfl
              refine pure_ (i := 2) (N := some 82) (v := ?_) (a' := ?_) #[true, false, true, false, false, false, false, false, false, false, false, false, false, false] rfl rfl (any_of HT_.out (by kernel_rfl)) (fun _ _ _ h => h) (Or.inl ⟨by rfl, ?_⟩) ?_ ?_
              rotate_left
              ·
               intro w'
               go_simp
               with_reducible rfl
              rotate_left
              ·
               simp only [Act.put, List.setIfInBounds_toArray, List.set_cons_zero, List.set_cons_succ, i64_w, i32_w]
               rfl
              refine pure_ (i := 3) (N := some 83) (v := ?_) (a' := ?_) #[true, false, true, true, false, false, false, false, false, false, false, false, false, false] rfl rfl (any_of HT_.out (by kernel_rfl)) (fun _ _ _ h => h) (Or.inl ⟨by rfl, ?_⟩) ?_ ?_
              rotate_left
              ·
               intro w'
               go_simp
               with_reducible rfl
              rotate_left
              ·
               simp only [Act.put, List.setIfInBounds_toArray, List.set_cons_zero, List.set_cons_succ, i64_w, i32_w]
               rfl
              refine pure_ (i := 5) (N := some 85) (v := ?_) (a' := ?_) #[true, false, true, true, false, true, false, false, false, false, false, false, false, false] rfl rfl (any_of HT_.out (by kernel_rfl)) (fun _ _ _ h => h) (Or.inl ⟨by rfl, ?_⟩) ?_ ?_
              rotate_left
              ·
               intro w'
               go_simp
               with_reducible rfl
              rotate_left
              ·
               simp only [Act.put, List.setIfInBounds_toArray, List.set_cons_zero, List.set_cons_succ, i64_w, i32_w]
               rfl
              refine pure_ (i := 7) (N := some 87) (v := ?_) (a' := ?_) #[true, false, true, true, false, true, false, true, false, false, false, false, false, false] rfl rfl (any_of HT_.out (by kernel_rfl)) (fun _ _ _ h => h) (Or.inl ⟨by rfl, ?_⟩) ?_ ?_
              rotate_left
              ·
               intro w'
               go_simp
               with_reducible rfl
              rotate_left
              ·
               simp only [Act.put, List.setIfInBounds_toArray, List.set_cons_zero, List.set_cons_succ, i64_w, i32_w]
               rfl
              refine pure_ (i := 8) (N := some 88) (v := ?_) (a' := ?_) #[true, false, true, true, false, true, false, true, true, false, false, false, false, false] rfl rfl (any_of HT_.out (by kernel_rfl)) (fun _ _ _ h => h) (Or.inl ⟨by rfl, ?_⟩) ?_ ?_
              rotate_left
              ·
               intro w'
               go_simp
               with_reducible rfl
              rotate_left
              ·
               simp only [Act.put, List.setIfInBounds_toArray, List.set_cons_zero, List.set_cons_succ, i64_w, i32_w]
               rfl
              refine take_ (i := 1) (N := some 81) (v := ?_) (a' := ?_) #[true, true, true, true, false, true, false, true, true, false, false, false, false, false] rfl rfl (take_ofW HT_.out HW_.out (by kernel_rfl)) (fun _ _ _ h => h) (Or.inl ⟨by rfl, ?_⟩) hHeld ?_ ?_
              rotate_left
              ·
               rintro w' ⟨s0, s1⟩
               go_simp
               with_reducible rfl
              rotate_left
              ·
               simp only [Act.put, List.setIfInBounds_toArray, List.set_cons_zero, List.set_cons_succ, i64_w, i32_w]
               rfl
              refine pure_ (i := 4) (N := some 84) (v := ?_) (a' := ?_) #[true, true, true, true, true, true, false, true, true, false, false, false, false, false] rfl rfl (any_of HT_.out (by kernel_rfl)) (fun _ _ _ h => h) (Or.inl ⟨by rfl, ?_⟩) ?_ ?_
              rotate_left
              ·
               intro w'
               go_simp
               with_reducible rfl
              rotate_left
              ·
               simp only [Act.put, List.setIfInBounds_toArray, List.set_cons_zero, List.set_cons_succ, i64_w, i32_w]
               rfl
              refine take_ (i := 6) (N := some 86) (v := ?_) (a' := ?_) #[true, true, true, true, true, true, true, true, true, false, false, false, false, false] rfl rfl (take_ofW HT_.out HW_.out (by kernel_rfl)) (fun _ _ _ h => h) (Or.inl ⟨by rfl, ?_⟩) hHeld ?_ ?_
              rotate_left
              ·
               rintro w' ⟨s0, s1⟩
               go_simp
               with_reducible rfl
              rotate_left
              ·
               simp only [Act.put, List.setIfInBounds_toArray, List.set_cons_zero, List.set_cons_succ, i64_w, i32_w]
               rfl
              refine pure_ (i := 9) (N := some 89) (v := ?_) (a' := ?_) #[true, true, true, true, true, true, true, true, true, true, false, false, false, false] rfl rfl (any_of HT_.out (by kernel_rfl)) (fun _ _ _ h => h) (Or.inl ⟨by rfl, ?_⟩) ?_ ?_
              rotate_left
              ·
               intro w'
               go_simp
               with_reducible rfl
              rotate_left
              ·
               simp only [Act.put, List.setIfInBounds_toArray, List.set_cons_zero, List.set_cons_succ, i64_w, i32_w]
               rfl
              refine pure_ (i := 10) (N := some 90) (v := ?_) (a' := ?_) #[true, true, true, true, true, true, true, true, true, true, true, false, false, false] rfl rfl (any_of HT_.out (by kernel_rfl)) (fun _ _ _ h => h) (Or.inl ⟨by rfl, ?_⟩) ?_ ?_
              rotate_left
              ·
               intro w'
               go_simp
               with_reducible rfl
              rotate_left
              ·
               simp only [Act.put, List.setIfInBounds_toArray, List.set_cons_zero, List.set_cons_succ, i64_w, i32_w]
               rfl
              refine last_ (i := 11) (N := none) #[true, true, true, true, true, true, true, true, true, true, true, true, false, false] rfl rfl (one_of HT_.out (by kernel_rfl)) (by decide) (fun K hK => ?_)
              have hs79 : w76.cell? ⟨G, 0, none⟩ = some (.slice (some ⟨go61, 0, none⟩) x216000_2.length co65) := (blk_cell BK215.out 0).trans rfl
              have hfs79 := blk_frozen BK215.out 0
              have hns79_0 := NB187_215.out
              have hns79_1 := NB188_215.out
              have hms79_0 := NB215_187.out
              have hms79_1 := NB215_188.out
              refine skip_ (w1 := ?_) (by rfl) rfl ?_ ?_
              rotate_left
              ·
               go_simp
               rfl
              refine hK.out _ _ ?_
              clear hK K
              refine pure_ (i := 12) (N := some 91) (v := ?_) (a' := ?_) #[true, true, true, true, true, true, true, true, true, true, true, true, true, false] rfl rfl (any_of HT_.out (by kernel_rfl)) (fun _ _ _ h => h) (Or.inl ⟨by rfl, ?_⟩) ?_ ?_
              rotate_left
              ·
               intro w'
               go_simp
               with_reducible rfl
              rotate_left
              ·
               simp only [Act.put, List.setIfInBounds_toArray, List.set_cons_zero, List.set_cons_succ, i64_w, i32_w]
               rfl
              refine last_ (i := 13) (N := none) #[true, true, true, true, true, true, true, true, true, true, true, true, true, true] rfl rfl (one_of HT_.out (by kernel_rfl)) (by decide) (fun K hK => ?_)
              have hs80 : w76.cell? ⟨G, 1, none⟩ = some (.slice (some ⟨go60, 0, none⟩) x216001_2.length co67) := (blk_cell BK215.out 1).trans rfl
              have hfs80 := blk_frozen BK215.out 1
              have hns80_0 := NB187_215.out
              have hns80_1 := NB188_215.out
              have hms80_0 := NB215_187.out
              have hms80_1 := NB215_188.out
              refine skip_ (w1 := ?_) (by rfl) rfl ?_ ?_
              rotate_left
              ·
               go_simp
               rfl
              refine hK.out _ _ ?_
              clear hK K
              refine done_ (done_of HT_.out (by kernel_rfl)) ?_
              try go_wp2
              go_roundg k2
              case measure => have := HJ2.out; have := HK2.out; omega
              case rel =>
               have hk := setK w76 G (.slice (some ⟨go61, 0, none⟩) y226.length co65) (.slice (some ⟨go60, 0, none⟩) y229.length co67)
               exact ⟨ji50, y226, y229, .slice (some ⟨go61, 0, none⟩) y226.length co65, .slice (some ⟨go60, 0, none⟩) y229.length co67, rfl, H', ⟨by have := HK2.out; omega⟩, ⟨Kd.R_mono (Kd.R_kept (Kd.R_types HO228.out BK215.out (by decide)) hk (fun _ h e => h.2 e)) (fun _ h => h.1)⟩, ⟨Kd.S_mono (Kd.S_kept (Kd.S_types HO231.out BK215.out (by decide)) hk (fun _ h e => h.2 e)) (fun _ h => ⟨h.1.1.1, h.1.2, h.1.1.2.1, h.1.1.2.2.1, h.2⟩)⟩, ⟨blk_kept BK2.out hk NB187_215.out⟩, ⟨blk_kept BK4.out hk NB188_215.out⟩, ⟨blk_put (cs := #[.slice (some ⟨go61, 0, none⟩) y226.length co65, .slice (some ⟨go60, 0, none⟩) x216001_2.length co67]) (blk_put (cs := #[.slice (some ⟨go61, 0, none⟩) x216000_2.length co65, .slice (some ⟨go60, 0, none⟩) x216001_2.length co67]) BK215.out 0 _ rfl) 1 _ rfl⟩, ⟨below_set (below_set HB.out GE215.out) GE215.out⟩⟩
             ·
              rw [if_neg c63] at H
              exact absurd H (by simp)
            ·
             rw [if_neg c62] at H
             exact absurd H (by simp)
           ·
            rw [if_neg c58] at H
            exact absurd H (by simp)
          ·
           rw [if_neg c57] at H
           exact absurd H (by simp)
         ·
          rw [if_neg c56] at H
          have c56b0 : ((rd x216000_2 (ji50)) == (rd x216000_2 (ji53))) = false := beq_eq_false_iff_ne.mpr c56
          have c56b1 : ((rd x216000_2 (ji50)) != (rd x216000_2 (ji53))) = true := bne_iff_ne.mpr c56
          replace H := Option.bind_eq_some_iff.mp H
          obtain ⟨t232, A810, H⟩ := H
          replace H : (if t232 = true then (some (x216000_2, x216001_2, true)) else (some (([] : List Int), ([] : List (List Int)), false))) = some (r1, r2, r3) := H
          have A81 := Aside0.mk A810
          clear A810
          by_cases c82 : t232 = true
          ·
           subst c82
           have H1 : (some (x216000_2, x216001_2, true)) = some (r1, r2, r3) := by rw [if_pos rfl] at H; exact H
           clear H
           have H := H1
           clear H1
           simp only [Option.some.injEq, Prod.mk.injEq] at H
           obtain ⟨rfl, rfl, rfl⟩ := H
           try go_wp2
           have n0_ := Aside0.mk (Kd.R_drew HO_216000.out)
           have n1_ := Aside0.mk (Kd.S_drew HO_216001.out)
           have n2_ := Aside0.mk (blk_drew BK2.out)
           have n3_ := Aside0.mk (blk_drew BK4.out)
           have n4_ := Aside0.mk (blk_drew BK215.out)
           have n5_ := Aside0.mk (below_drew1 HB.out)
           clear HO_216000
           clear HO_216001
           clear BK2
           clear BK4
           clear BK215
           clear HB
           have HO_216000 := n0_
           have HO_216001 := n1_
           have BK2 := n2_
           have BK4 := n3_
           have BK215 := n4_
           have HB := n5_
           clear n0_ n1_ n2_ n3_ n4_ n5_
           obtain ⟨Ao84, co84, eo84⟩ := Kd.R_slice HO_216000.out
           (first | subst eo84 | (injection eo84 with f1_ f2_ f3_; have f4_ := f1_.symm; have f5_ := f3_.symm; clear f1_ f2_ f3_; subst f4_; subst f5_))
           have p216 : 0 ≤ ((ji50) : Int) := of_decide_eq_true asA
           have q216 : (ji50) < (x216000_2.length : Int) := of_decide_eq_true asA
           obtain ⟨ad216, e216, hx216_0⟩ := Kd.at_int (Kd.R_reads' HO_216000.out).2.2 (ji50) p216 q216
           cases e216
           replace p216 := eq_true p216
           replace q216 := eq_true q216
           have p217 : 0 ≤ ((ji53) : Int) := of_decide_eq_true asA
           have q217 : (ji53) < (x216000_2.length : Int) := of_decide_eq_true asA
           obtain ⟨ad217, e217, hx217_0⟩ := Kd.at_int (Kd.R_reads' HO_216000.out).2.2 (ji53) p217 q217
           obtain rfl : ad216 = ad217 := (by injection e217)
           replace p217 := eq_true p217
           replace q217 := eq_true q217
           refine start_ (n := 17) (S := fun w' => w'.cell? ⟨G, 0, none⟩ = some (.slice (some ad216) x216000_2.length co84) ∧ w'.cell? ⟨G, 1, none⟩ = some (u216001) ∧ w'.cell? (ad216.add ((ji50)).toNat) = some (.int .i64 (rd x216000_2 (ji50))) ∧ w'.cell? (ad216.add ((ji53)).toNat) = some (.int .i64 (rd x216000_2 (ji53)))) (ds := []) #[false, false, false, false, false, false, false, false, false, false, false, false, false, false, false, false, false] (by kernel_rfl) rfl rfl ⟨(blk_cell BK215.out 0).trans rfl, (blk_cell BK215.out 1).trans rfl, hx216_0, hx217_0⟩ (fun hHeld => ?_); refine with_tabW impl_StackPush.tab5 impl_StackPush.bits5 (fun HT_ HW_ => ?_)
           generalize wr.drew = w83 at HO_216000 HO_216001 BK2 BK4 BK215 HB hx216_0 hx217_0 hHeld ⊢
           refine pure_ (i := 0) (N := some 35) (v := ?_) (a' := ?_) #[true, false, false, false, false, false, false, false, false, false, false, false, false, false, false, false, false] rfl rfl (any_of HT_.out (by kernel_rfl)) (fun _ _ _ h => h) (Or.inl ⟨by rfl, ?_⟩) ?_ ?_
           rotate_left
           ·
            intro w'
            go_simp
            with_reducible rfl
           rotate_left
           ·
            simp only [Act.put, List.setIfInBounds_toArray, List.set_cons_zero, List.set_cons_succ, i64_w, i32_w]
            rfl
           refine pure_ (i := 1) (N := some 36) (v := ?_) (a' := ?_) #[true, true, false, false, false, false, false, false, false, false, false, false, false, false, false, false, false] rfl rfl (any_of HT_.out (by kernel_rfl)) (fun _ _ _ h => h) (Or.inl ⟨by rfl, ?_⟩) ?_ ?_
           rotate_left
           ·
            intro w'
            go_simp
            with_reducible rfl
           rotate_left
           ·
            simp only [Act.put, List.setIfInBounds_toArray, List.set_cons_zero, List.set_cons_succ, i64_w, i32_w]
            rfl
           refine pure_ (i := 2) (N := some 37) (v := ?_) (a' := ?_) #[true, true, true, false, false, false, false, false, false, false, false, false, false, false, false, false, false] rfl rfl (any_of HT_.out (by kernel_rfl)) (fun _ _ _ h => h) (Or.inl ⟨by rfl, ?_⟩) ?_ ?_
           rotate_left
           ·
            intro w'
            go_simp
            with_reducible rfl
           rotate_left
           ·
            simp only [Act.put, List.setIfInBounds_toArray, List.set_cons_zero, List.set_cons_succ, i64_w, i32_w]
            rfl
           refine pure_ (i := 3) (N := some 38) (v := ?_) (a' := ?_) #[true, true, true, true, false, false, false, false, false, false, false, false, false, false, false, false, false] rfl rfl (any_of HT_.out (by kernel_rfl)) (fun _ _ _ h => h) (Or.inl ⟨by rfl, ?_⟩) ?_ ?_
           rotate_left
           ·
            intro w'
            go_simp
            with_reducible rfl
           rotate_left
           ·
            simp only [Act.put, List.setIfInBounds_toArray, List.set_cons_zero, List.set_cons_succ, i64_w, i32_w]
            rfl
           refine pure_ (i := 5) (N := some 40) (v := ?_) (a' := ?_) #[true, true, true, true, false, true, false, false, false, false, false, false, false, false, false, false, false] rfl rfl (any_of HT_.out (by kernel_rfl)) (fun _ _ _ h => h) (Or.inl ⟨by rfl, ?_⟩) ?_ ?_
           rotate_left
           ·
            intro w'
            go_simp
            with_reducible rfl
           rotate_left
           ·
            simp only [Act.put, List.setIfInBounds_toArray, List.set_cons_zero, List.set_cons_succ, i64_w, i32_w]
            rfl
           refine pure_ (i := 6) (N := some 41) (v := ?_) (a' := ?_) #[true, true, true, true, false, true, true, false, false, false, false, false, false, false, false, false, false] rfl rfl (any_of HT_.out (by kernel_rfl)) (fun _ _ _ h => h) (Or.inl ⟨by rfl, ?_⟩) ?_ ?_
           rotate_left
           ·
            intro w'
            go_simp
            with_reducible rfl
           rotate_left
           ·
            simp only [Act.put, List.setIfInBounds_toArray, List.set_cons_zero, List.set_cons_succ, i64_w, i32_w]
            rfl
           refine pure_ (i := 9) (N := some 44) (v := ?_) (a' := ?_) #[true, true, true, true, false, true, true, false, false, true, false, false, false, false, false, false, false] rfl rfl (any_of HT_.out (by kernel_rfl)) (fun _ _ _ h => h) (Or.inl ⟨by rfl, ?_⟩) ?_ ?_
           rotate_left
           ·
            intro w'
            go_simp
            with_reducible rfl
           rotate_left
           ·
            simp only [Act.put, List.setIfInBounds_toArray, List.set_cons_zero, List.set_cons_succ, i64_w, i32_w]
            rfl
           refine pure_ (i := 11) (N := some 46) (v := ?_) (a' := ?_) #[true, true, true, true, false, true, true, false, false, true, false, true, false, false, false, false, false] rfl rfl (any_of HT_.out (by kernel_rfl)) (fun _ _ _ h => h) (Or.inl ⟨by rfl, ?_⟩) ?_ ?_
           rotate_left
           ·
            intro w'
            go_simp
            with_reducible rfl
           rotate_left
           ·
            simp only [Act.put, List.setIfInBounds_toArray, List.set_cons_zero, List.set_cons_succ, i64_w, i32_w]
            rfl
           refine pure_ (i := 12) (N := some 47) (v := ?_) (a' := ?_) #[true, true, true, true, false, true, true, false, false, true, false, true, true, false, false, false, false] rfl rfl (any_of HT_.out (by kernel_rfl)) (fun _ _ _ h => h) (Or.inl ⟨by rfl, ?_⟩) ?_ ?_
           rotate_left
           ·
            intro w'
            go_simp
            with_reducible rfl
           rotate_left
           ·
            simp only [Act.put, List.setIfInBounds_toArray, List.set_cons_zero, List.set_cons_succ, i64_w, i32_w]
            rfl
           refine take_ (i := 4) (N := some 39) (v := ?_) (a' := ?_) #[true, true, true, true, true, true, true, false, false, true, false, true, true, false, false, false, false] rfl rfl (take_ofW HT_.out HW_.out (by kernel_rfl)) (fun _ _ _ h => h) (Or.inl ⟨by rfl, ?_⟩) hHeld ?_ ?_
           rotate_left
           ·
            rintro w' ⟨s0, s1, s2, s3⟩
            go_simp
            with_reducible rfl
           rotate_left
           ·
            simp only [Act.put, List.setIfInBounds_toArray, List.set_cons_zero, List.set_cons_succ, i64_w, i32_w]
            rfl
           refine pure_ (i := 7) (N := some 42) (v := ?_) (a' := ?_) #[true, true, true, true, true, true, true, true, false, true, false, true, true, false, false, false, false] rfl rfl (any_of HT_.out (by kernel_rfl)) (fun _ _ _ h => h) (Or.inl ⟨by rfl, ?_⟩) ?_ ?_
           rotate_left
           ·
            intro w'
            go_simp
            with_reducible rfl
           rotate_left
           ·
            simp only [Act.put, List.setIfInBounds_toArray, List.set_cons_zero, List.set_cons_succ, i64_w, i32_w]
            rfl
           refine take_ (i := 8) (N := some 43) (v := ?_) (a' := ?_) #[true, true, true, true, true, true, true, true, true, true, false, true, true, false, false, false, false] rfl rfl (take_ofW HT_.out HW_.out (by kernel_rfl)) (fun _ _ _ h => h) (Or.inl ⟨by rfl, ?_⟩) hHeld ?_ ?_
           rotate_left
           ·
            rintro w' ⟨s0, s1, s2, s3⟩
            go_simp
            with_reducible rfl
           rotate_left
           ·
            simp only [Act.put, List.setIfInBounds_toArray, List.set_cons_zero, List.set_cons_succ, i64_w, i32_w]
            rfl
           refine take_ (i := 10) (N := some 45) (v := ?_) (a' := ?_) #[true, true, true, true, true, true, true, true, true, true, true, true, true, false, false, false, false] rfl rfl (take_ofW HT_.out HW_.out (by kernel_rfl)) (fun _ _ _ h => h) (Or.inl ⟨by rfl, ?_⟩) hHeld ?_ ?_
           rotate_left
           ·
            rintro w' ⟨s0, s1, s2, s3⟩
            go_simp
            with_reducible rfl
           rotate_left
           ·
            simp only [Act.put, List.setIfInBounds_toArray, List.set_cons_zero, List.set_cons_succ, i64_w, i32_w]
            rfl
           refine pure_ (i := 13) (N := some 48) (v := ?_) (a' := ?_) #[true, true, true, true, true, true, true, true, true, true, true, true, true, true, false, false, false] rfl rfl (any_of HT_.out (by kernel_rfl)) (fun _ _ _ h => h) (Or.inl ⟨by rfl, ?_⟩) ?_ ?_
           rotate_left
           ·
            intro w'
            go_simp
            with_reducible rfl
           rotate_left
           ·
            simp only [Act.put, List.setIfInBounds_toArray, List.set_cons_zero, List.set_cons_succ, i64_w, i32_w]
            rfl
           refine take_ (i := 14) (N := some 49) (v := ?_) (a' := ?_) #[true, true, true, true, true, true, true, true, true, true, true, true, true, true, true, false, false] rfl rfl (take_ofW HT_.out HW_.out (by kernel_rfl)) (fun _ _ _ h => h) (Or.inl ⟨by rfl, ?_⟩) hHeld ?_ ?_
           rotate_left
           ·
            rintro w' ⟨s0, s1, s2, s3⟩
            go_simp
            with_reducible rfl
           rotate_left
           ·
            simp only [Act.put, List.setIfInBounds_toArray, List.set_cons_zero, List.set_cons_succ, i64_w, i32_w]
            rfl
           refine pure_ (i := 15) (N := some 50) (v := ?_) (a' := ?_) #[true, true, true, true, true, true, true, true, true, true, true, true, true, true, true, true, false] rfl rfl (any_of HT_.out (by kernel_rfl)) (fun _ _ _ h => h) (Or.inl ⟨by rfl, ?_⟩) ?_ ?_
           rotate_left
           ·
            intro w'
            go_simp
            with_reducible rfl
           rotate_left
           ·
            simp only [Act.put, List.setIfInBounds_toArray, List.set_cons_zero, List.set_cons_succ, i64_w, i32_w]
            rfl
           refine pure_ (i := 16) (N := some 51) (v := ?_) (a' := ?_) #[true, true, true, true, true, true, true, true, true, true, true, true, true, true, true, true, true] rfl rfl (any_of HT_.out (by kernel_rfl)) (fun _ _ _ h => h) (Or.inl ⟨by rfl, ?_⟩) ?_ ?_
           rotate_left
           ·
            intro w'
            go_simp
            with_reducible rfl
           rotate_left
           ·
            simp only [Act.put, List.setIfInBounds_toArray, List.set_cons_zero, List.set_cons_succ, i64_w, i32_w]
            rfl
           refine done_ (done_of HT_.out (by kernel_rfl)) ?_
           have hnb85 := NB215_187.out
           have hnc85 := NB187_215.out
           have hnb86 := NB215_188.out
           have hnc86 := NB188_215.out
           have hcz87_0 : w83.cell? ⟨G, 0, none⟩ = some (.slice (some ad216) x216000_2.length co84) := (blk_cell BK215.out 0).trans rfl
           have hcz87_1 : w83.cell? ⟨G, 1, none⟩ = some (u216001) := (blk_cell BK215.out 1).trans rfl
           have hfz87_0 := blk_frozen BK215.out 0
           have hfz87_1 := blk_frozen BK215.out 1
           obtain ⟨Ao88, co88, eo88⟩ := Kd.S_slice HO_216001.out
           subst eo88
           try go_wp2_with (first | ((with_reducible refine gate_callee (f := 54) rfl ?_); refine goesL_ (some 93) rfl rfl Try.func54 (by kernel_rfl) rfl #[.agg #[.slice (some ad216) x216000_2.length co84, .slice Ao88 x216001_2.length co88]] rfl mtA ?_; (with_reducible refine (impl_StackOk.calls k2 _ _ x216000_2 _ _ x216001_2 true _ ?side1 ?side2 ?side3 ?side4 A81.out).mono ?_); (case side1 => repeat (first | exact (Kd.R_reads' HO_216000.out).2.2 | (with_reducible refine Kd.C_alloc ?_ _) | (with_reducible refine Kd.C_drewN ?_ _) | (with_reducible refine Kd.C_drew ?_))); (case side2 => exact (Kd.R_reads' HO_216000.out).2.1); (case side3 => repeat (first | exact (Kd.S_reads' HO_216001.out).2.2 | (with_reducible refine Kd.C_alloc ?_ _) | (with_reducible refine Kd.C_drewN ?_ _) | (with_reducible refine Kd.C_drew ?_))); (case side4 => exact (Kd.S_reads' HO_216001.out).2.1); rintro e w89 ⟨rfl, hb⟩; refine ⟨_, rfl, ?_⟩; have n0_ := Aside0.mk (Kd.R_below (rA HO_216000.out) hb); have n1_ := Aside0.mk (Kd.S_below (sA HO_216001.out) hb); have n2_ := Aside0.mk (blk_below (g := g2) (o := .cells #[.slice A0 l0.length c0, .slice A1 l1.length c1] 50 (0, 0)) (bkA BK2.out) hb); have n3_ := Aside0.mk (blk_below (g := g4) (o := .cells #[.slice none 0 0, .slice none 0 0] 50 (0, 0)) (bkA BK4.out) hb); have n4_ := Aside0.mk (blk_below (g := G) (o := .cells #[.slice (some ad216) x216000_2.length co84, .slice Ao88 x216001_2.length co88] 50 (0, 0)) (bkA BK215.out) hb); have n5_ := Aside0.mk (below_step (hbA HB) hb); clear HO_216000; clear HO_216001; clear BK2; clear BK4; clear BK215; clear HB; have HO_216000 := n0_; have HO_216001 := n1_; have BK2 := n2_; have BK4 := n3_; have BK215 := n4_; have HB := n5_; clear n0_ n1_ n2_ n3_ n4_ n5_; (try clear hb); (try clear hb2); (try clear hk); (try clear hi); have hcz90_0 : w89.cell? ⟨G, 0, none⟩ = some (.slice (some ad216) x216000_2.length co84) := (blk_cell BK215.out 0).trans rfl; have hcz90_1 : w89.cell? ⟨G, 1, none⟩ = some (.slice Ao88 x216001_2.length co88) := (blk_cell BK215.out 1).trans rfl; have hfz90_0 := blk_frozen BK215.out 0; have hfz90_1 := blk_frozen BK215.out 1; have hnb91 := G42.out; have hnc91 := G24.out; have hcz92_0 : w89.cell? ⟨g4, 0, none⟩ = some (.slice none 0 0) := (blk_cell BK4.out 0).trans rfl; have hcz92_1 : w89.cell? ⟨g4, 1, none⟩ = some (.slice none 0 0) := (blk_cell BK4.out 1).trans rfl; have hfz92_0 := blk_frozen BK4.out 0; have hfz92_1 := blk_frozen BK4.out 1))
           refine bodyPost_ret (results_ct rfl _ _ g4 50 #[.slice (some ad216) x216000_2.length co84, .slice Ao88 x216001_2.length co88] (0, 0) _ rfl (by (with_reducible repeat (first | refine blk_drewN ?_ _ | refine blk_drew ?_ | refine blk_alloc ?_ _)); refine blk_put (cs := #[.slice (some ad216) x216000_2.length co84, .slice none 0 0]) ?_ 1 _ rfl; (with_reducible repeat (first | refine blk_drewN ?_ _ | refine blk_drew ?_ | refine blk_alloc ?_ _)); refine blk_put (cs := #[.slice none 0 0, .slice none 0 0]) ?_ 0 _ rfl; (with_reducible repeat (first | refine blk_drewN ?_ _ | refine blk_drew ?_ | refine blk_alloc ?_ _)); exact BK4.out) Try.underlying50 rfl (by kernel_rfl)) rfl ?_
           exact ⟨_, _, by first | rfl | (simp [errW_none, errW_some] <;> rfl) | (simp only [← hji50, ← hji53]; first | rfl | (simp [errW_none, errW_some] <;> rfl)) | (simp [*, errW_none, errW_some] <;> rfl), by (with_reducible repeat (first | apply Kd.R_alloc | apply Kd.R_drewN | apply Kd.R_drew)); exact Kd.R_mono (Kd.R_far (p := ⟨g4, 1, none⟩) (Kd.R_far (p := ⟨g4, 0, none⟩) (Kd.R_types HO_216000.out BK4.out (by decide)) (fun _ hk => hk.2) (.slice (some ad216) x216000_2.length co84)) (fun _ hk => hk.2) (.slice Ao88 x216001_2.length co88)) (fun _ hk => hk.1), by (with_reducible repeat (first | apply Kd.S_alloc | apply Kd.S_drewN | apply Kd.S_drew)); exact Kd.S_mono (Kd.S_far (p := ⟨g4, 1, none⟩) (Kd.S_far (p := ⟨g4, 0, none⟩) (Kd.S_mono HO_216001.out (fun k_ hk => (⟨hk, hk.2.2.2.1⟩ : _ ∧ k_ ≠ g4))) (fun _ hk => hk.2) (.slice (some ad216) x216000_2.length co84)) (fun _ hk => hk.2) (.slice Ao88 x216001_2.length co88)) (fun _ hk => ⟨hk.1.1, hk.1.2.1⟩), hbA HB⟩
          ·
           replace c82 := Bool.eq_false_iff.mpr c82
           subst c82
           have H1 : (some (([] : List Int), ([] : List (List Int)), false)) = some (r1, r2, r3) := by rw [if_neg (show ¬ (false = true) by decide)] at H; exact H
           clear H
           have H := H1
           clear H1
           simp only [Option.some.injEq, Prod.mk.injEq] at H
           obtain ⟨rfl, rfl, rfl⟩ := H
           try go_wp2
           have n0_ := Aside0.mk (Kd.R_drew HO_216000.out)
           have n1_ := Aside0.mk (Kd.S_drew HO_216001.out)
           have n2_ := Aside0.mk (blk_drew BK2.out)
           have n3_ := Aside0.mk (blk_drew BK4.out)
           have n4_ := Aside0.mk (blk_drew BK215.out)
           have n5_ := Aside0.mk (below_drew1 HB.out)
           clear HO_216000
           clear HO_216001
           clear BK2
           clear BK4
           clear BK215
           clear HB
           have HO_216000 := n0_
           have HO_216001 := n1_
           have BK2 := n2_
           have BK4 := n3_
           have BK215 := n4_
           have HB := n5_
           clear n0_ n1_ n2_ n3_ n4_ n5_
           obtain ⟨Ao94, co94, eo94⟩ := Kd.R_slice HO_216000.out
           (first | subst eo94 | (injection eo94 with f1_ f2_ f3_; have f4_ := f1_.symm; have f5_ := f3_.symm; clear f1_ f2_ f3_; subst f4_; subst f5_))
           have p216 : 0 ≤ ((ji50) : Int) := of_decide_eq_true asA
           have q216 : (ji50) < (x216000_2.length : Int) := of_decide_eq_true asA
           obtain ⟨ad216, e216, hx216_0⟩ := Kd.at_int (Kd.R_reads' HO_216000.out).2.2 (ji50) p216 q216
           cases e216
           replace p216 := eq_true p216
           replace q216 := eq_true q216
           have p217 : 0 ≤ ((ji53) : Int) := of_decide_eq_true asA
           have q217 : (ji53) < (x216000_2.length : Int) := of_decide_eq_true asA
           obtain ⟨ad217, e217, hx217_0⟩ := Kd.at_int (Kd.R_reads' HO_216000.out).2.2 (ji53) p217 q217
           obtain rfl : ad216 = ad217 := (by injection e217)
           replace p217 := eq_true p217
           replace q217 := eq_true q217
           refine start_ (n := 17) (S := fun w' => w'.cell? ⟨G, 0, none⟩ = some (.slice (some ad216) x216000_2.length co94) ∧ w'.cell? ⟨G, 1, none⟩ = some (u216001) ∧ w'.cell? (ad216.add ((ji50)).toNat) = some (.int .i64 (rd x216000_2 (ji50))) ∧ w'.cell? (ad216.add ((ji53)).toNat) = some (.int .i64 (rd x216000_2 (ji53)))) (ds := []) #[false, false, false, false, false, false, false, false, false, false, false, false, false, false, false, false, false] (by kernel_rfl) rfl rfl ⟨(blk_cell BK215.out 0).trans rfl, (blk_cell BK215.out 1).trans rfl, hx216_0, hx217_0⟩ (fun hHeld => ?_); refine with_tabW impl_StackPush.tab5 impl_StackPush.bits5 (fun HT_ HW_ => ?_)
           generalize wr.drew = w93 at HO_216000 HO_216001 BK2 BK4 BK215 HB hx216_0 hx217_0 hHeld ⊢
           refine pure_ (i := 0) (N := some 35) (v := ?_) (a' := ?_) #[true, false, false, false, false, false, false, false, false, false, false, false, false, false, false, false, false] rfl rfl (any_of HT_.out (by kernel_rfl)) (fun _ _ _ h => h) (Or.inl ⟨by rfl, ?_⟩) ?_ ?_
           rotate_left
           ·
            intro w'
            go_simp
            with_reducible rfl
           rotate_left
           ·
            simp only [Act.put, List.setIfInBounds_toArray, List.set_cons_zero, List.set_cons_succ, i64_w, i32_w]
            rfl
           refine pure_ (i := 1) (N := some 36) (v := ?_) (a' := ?_) #[true, true, false, false, false, false, false, false, false, false, false, false, false, false, false, false, false] rfl rfl (any_of HT_.out (by kernel_rfl)) (fun _ _ _ h => h) (Or.inl ⟨by rfl, ?_⟩) ?_ ?_
           rotate_left
           ·
            intro w'
            go_simp
            with_reducible rfl
           rotate_left
           ·
            simp only [Act.put, List.setIfInBounds_toArray, List.set_cons_zero, List.set_cons_succ, i64_w, i32_w]
            rfl
           refine pure_ (i := 2) (N := some 37) (v := ?_) (a' := ?_) #[true, true, true, false, false, false, false, false, false, false, false, false, false, false, false, false, false] rfl rfl (any_of HT_.out (by kernel_rfl)) (fun _ _ _ h => h) (Or.inl ⟨by rfl, ?_⟩) ?_ ?_
           rotate_left
           ·
            intro w'
            go_simp
            with_reducible rfl
           rotate_left
           ·
            simp only [Act.put, List.setIfInBounds_toArray, List.set_cons_zero, List.set_cons_succ, i64_w, i32_w]
            rfl
           refine pure_ (i := 3) (N := some 38) (v := ?_) (a' := ?_) #[true, true, true, true, false, false, false, false, false, false, false, false, false, false, false, false, false] rfl rfl (any_of HT_.out (by kernel_rfl)) (fun _ _ _ h => h) (Or.inl ⟨by rfl, ?_⟩) ?_ ?_
           rotate_left
           ·
            intro w'
            go_simp
            with_reducible rfl
           rotate_left
           ·
            simp only [Act.put, List.setIfInBounds_toArray, List.set_cons_zero, List.set_cons_succ, i64_w, i32_w]
            rfl
           refine pure_ (i := 5) (N := some 40) (v := ?_) (a' := ?_) #[true, true, true, true, false, true, false, false, false, false, false, false, false, false, false, false, false] rfl rfl (any_of HT_.out (by kernel_rfl)) (fun _ _ _ h => h) (Or.inl ⟨by rfl, ?_⟩) ?_ ?_
           rotate_left
           ·
            intro w'
            go_simp
            with_reducible rfl
           rotate_left
           ·
            simp only [Act.put, List.setIfInBounds_toArray, List.set_cons_zero, List.set_cons_succ, i64_w, i32_w]
            rfl
           refine pure_ (i := 6) (N := some 41) (v := ?_) (a' := ?_) #[true, true, true, true, false, true, true, false, false, false, false, false, false, false, false, false, false] rfl rfl (any_of HT_.out (by kernel_rfl)) (fun _ _ _ h => h) (Or.inl ⟨by rfl, ?_⟩) ?_ ?_
           rotate_left
           ·
            intro w'
            go_simp
            with_reducible rfl
           rotate_left
           ·
            simp only [Act.put, List.setIfInBounds_toArray, List.set_cons_zero, List.set_cons_succ, i64_w, i32_w]
            rfl
           refine pure_ (i := 9) (N := some 44) (v := ?_) (a' := ?_) #[true, true, true, true, false, true, true, false, false, true, false, false, false, false, false, false, false] rfl rfl (any_of HT_.out (by kernel_rfl)) (fun _ _ _ h => h) (Or.inl ⟨by rfl, ?_⟩) ?_ ?_
           rotate_left
           ·
            intro w'
            go_simp
            with_reducible rfl
           rotate_left
           ·
            simp only [Act.put, List.setIfInBounds_toArray, List.set_cons_zero, List.set_cons_succ, i64_w, i32_w]
            rfl
           refine pure_ (i := 11) (N := some 46) (v := ?_) (a' := ?_) #[true, true, true, true, false, true, true, false, false, true, false, true, false, false, false, false, false] rfl rfl (any_of HT_.out (by kernel_rfl)) (fun _ _ _ h => h) (Or.inl ⟨by rfl, ?_⟩) ?_ ?_
           rotate_left
           ·
            intro w'
            go_simp
            with_reducible rfl
           rotate_left
           ·
            simp only [Act.put, List.setIfInBounds_toArray, List.set_cons_zero, List.set_cons_succ, i64_w, i32_w]
            rfl
           refine pure_ (i := 12) (N := some 47) (v := ?_) (a' := ?_) #[true, true, true, true, false, true, true, false, false, true, false, true, true, false, false, false, false] rfl rfl (any_of HT_.out (by kernel_rfl)) (fun _ _ _ h => h) (Or.inl ⟨by rfl, ?_⟩) ?_ ?_
           rotate_left
           ·
            intro w'
            go_simp
            with_reducible rfl
           rotate_left
           ·
            simp only [Act.put, List.setIfInBounds_toArray, List.set_cons_zero, List.set_cons_succ, i64_w, i32_w]
            rfl
           refine take_ (i := 4) (N := some 39) (v := ?_) (a' := ?_) #[true, true, true, true, true, true, true, false, false, true, false, true, true, false, false, false, false] rfl rfl (take_ofW HT_.out HW_.out (by kernel_rfl)) (fun _ _ _ h => h) (Or.inl ⟨by rfl, ?_⟩) hHeld ?_ ?_
           rotate_left
           ·
            rintro w' ⟨s0, s1, s2, s3⟩
            go_simp
            with_reducible rfl
           rotate_left
           ·
            simp only [Act.put, List.setIfInBounds_toArray, List.set_cons_zero, List.set_cons_succ, i64_w, i32_w]
            rfl
           refine pure_ (i := 7) (N := some 42) (v := ?_) (a' := ?_) #[true, true, true, true, true, true, true, true, false, true, false, true, true, false, false, false, false] rfl rfl (any_of HT_.out (by kernel_rfl)) (fun _ _ _ h => h) (Or.inl ⟨by rfl, ?_⟩) ?_ ?_
           rotate_left
           ·
            intro w'
            go_simp
            with_reducible rfl
           rotate_left
           ·
            simp only [Act.put, List.setIfInBounds_toArray, List.set_cons_zero, List.set_cons_succ, i64_w, i32_w]
            rfl
           refine take_ (i := 8) (N := some 43) (v := ?_) (a' := ?_) #[true, true, true, true, true, true, true, true, true, true, false, true, true, false, false, false, false] rfl rfl (take_ofW HT_.out HW_.out (by kernel_rfl)) (fun _ _ _ h => h) (Or.inl ⟨by rfl, ?_⟩) hHeld ?_ ?_
           rotate_left
           ·
            rintro w' ⟨s0, s1, s2, s3⟩
            go_simp
            with_reducible rfl
           rotate_left
           ·
            simp only [Act.put, List.setIfInBounds_toArray, List.set_cons_zero, List.set_cons_succ, i64_w, i32_w]
            rfl
           refine take_ (i := 10) (N := some 45) (v := ?_) (a' := ?_) #[true, true, true, true, true, true, true, true, true, true, true, true, true, false, false, false, false] rfl rfl (take_ofW HT_.out HW_.out (by kernel_rfl)) (fun _ _ _ h => h) (Or.inl ⟨by rfl, ?_⟩) hHeld ?_ ?_
           rotate_left
           ·
            rintro w' ⟨s0, s1, s2, s3⟩
            go_simp
            with_reducible rfl
           rotate_left
           ·
            simp only [Act.put, List.setIfInBounds_toArray, List.set_cons_zero, List.set_cons_succ, i64_w, i32_w]
            rfl
           refine pure_ (i := 13) (N := some 48) (v := ?_) (a' := ?_) #[true, true, true, true, true, true, true, true, true, true, true, true, true, true, false, false, false] rfl rfl (any_of HT_.out (by kernel_rfl)) (fun _ _ _ h => h) (Or.inl ⟨by rfl, ?_⟩) ?_ ?_
           rotate_left
           ·
            intro w'
            go_simp
            with_reducible rfl
           rotate_left
           ·
            simp only [Act.put, List.setIfInBounds_toArray, List.set_cons_zero, List.set_cons_succ, i64_w, i32_w]
            rfl
           refine take_ (i := 14) (N := some 49) (v := ?_) (a' := ?_) #[true, true, true, true, true, true, true, true, true, true, true, true, true, true, true, false, false] rfl rfl (take_ofW HT_.out HW_.out (by kernel_rfl)) (fun _ _ _ h => h) (Or.inl ⟨by rfl, ?_⟩) hHeld ?_ ?_
           rotate_left
           ·
            rintro w' ⟨s0, s1, s2, s3⟩
            go_simp
            with_reducible rfl
           rotate_left
           ·
            simp only [Act.put, List.setIfInBounds_toArray, List.set_cons_zero, List.set_cons_succ, i64_w, i32_w]
            rfl
           refine pure_ (i := 15) (N := some 50) (v := ?_) (a' := ?_) #[true, true, true, true, true, true, true, true, true, true, true, true, true, true, true, true, false] rfl rfl (any_of HT_.out (by kernel_rfl)) (fun _ _ _ h => h) (Or.inl ⟨by rfl, ?_⟩) ?_ ?_
           rotate_left
           ·
            intro w'
            go_simp
            with_reducible rfl
           rotate_left
           ·
            simp only [Act.put, List.setIfInBounds_toArray, List.set_cons_zero, List.set_cons_succ, i64_w, i32_w]
            rfl
           refine pure_ (i := 16) (N := some 51) (v := ?_) (a' := ?_) #[true, true, true, true, true, true, true, true, true, true, true, true, true, true, true, true, true] rfl rfl (any_of HT_.out (by kernel_rfl)) (fun _ _ _ h => h) (Or.inl ⟨by rfl, ?_⟩) ?_ ?_
           rotate_left
           ·
            intro w'
            go_simp
            with_reducible rfl
           rotate_left
           ·
            simp only [Act.put, List.setIfInBounds_toArray, List.set_cons_zero, List.set_cons_succ, i64_w, i32_w]
            rfl
           refine done_ (done_of HT_.out (by kernel_rfl)) ?_
           have hnb95 := NB215_187.out
           have hnc95 := NB187_215.out
           have hnb96 := NB215_188.out
           have hnc96 := NB188_215.out
           have hcz97_0 : w93.cell? ⟨G, 0, none⟩ = some (.slice (some ad216) x216000_2.length co94) := (blk_cell BK215.out 0).trans rfl
           have hcz97_1 : w93.cell? ⟨G, 1, none⟩ = some (u216001) := (blk_cell BK215.out 1).trans rfl
           have hfz97_0 := blk_frozen BK215.out 0
           have hfz97_1 := blk_frozen BK215.out 1
           obtain ⟨Ao98, co98, eo98⟩ := Kd.S_slice HO_216001.out
           subst eo98
           try go_wp2_with (first | ((with_reducible refine gate_callee (f := 54) rfl ?_); refine goesL_ (some 93) rfl rfl Try.func54 (by kernel_rfl) rfl #[.agg #[.slice (some ad216) x216000_2.length co94, .slice Ao98 x216001_2.length co98]] rfl mtA ?_; (with_reducible refine (impl_StackOk.calls k2 _ _ x216000_2 _ _ x216001_2 false _ ?side1 ?side2 ?side3 ?side4 A81.out).mono ?_); (case side1 => repeat (first | exact (Kd.R_reads' HO_216000.out).2.2 | (with_reducible refine Kd.C_alloc ?_ _) | (with_reducible refine Kd.C_drewN ?_ _) | (with_reducible refine Kd.C_drew ?_))); (case side2 => exact (Kd.R_reads' HO_216000.out).2.1); (case side3 => repeat (first | exact (Kd.S_reads' HO_216001.out).2.2 | (with_reducible refine Kd.C_alloc ?_ _) | (with_reducible refine Kd.C_drewN ?_ _) | (with_reducible refine Kd.C_drew ?_))); (case side4 => exact (Kd.S_reads' HO_216001.out).2.1); rintro e w99 ⟨rfl, hb⟩; refine ⟨_, rfl, ?_⟩; have n0_ := Aside0.mk (Kd.R_below (rA HO_216000.out) hb); have n1_ := Aside0.mk (Kd.S_below (sA HO_216001.out) hb); have n2_ := Aside0.mk (blk_below (g := g2) (o := .cells #[.slice A0 l0.length c0, .slice A1 l1.length c1] 50 (0, 0)) (bkA BK2.out) hb); have n3_ := Aside0.mk (blk_below (g := g4) (o := .cells #[.slice none 0 0, .slice none 0 0] 50 (0, 0)) (bkA BK4.out) hb); have n4_ := Aside0.mk (blk_below (g := G) (o := .cells #[.slice (some ad216) x216000_2.length co94, .slice Ao98 x216001_2.length co98] 50 (0, 0)) (bkA BK215.out) hb); have n5_ := Aside0.mk (below_step (hbA HB) hb); clear HO_216000; clear HO_216001; clear BK2; clear BK4; clear BK215; clear HB; have HO_216000 := n0_; have HO_216001 := n1_; have BK2 := n2_; have BK4 := n3_; have BK215 := n4_; have HB := n5_; clear n0_ n1_ n2_ n3_ n4_ n5_; (try clear hb); (try clear hb2); (try clear hk); (try clear hi); have hnb100 := G42.out; have hnc100 := G24.out; have hcz101_0 : w99.cell? ⟨g4, 0, none⟩ = some (.slice none 0 0) := (blk_cell BK4.out 0).trans rfl; have hcz101_1 : w99.cell? ⟨g4, 1, none⟩ = some (.slice none 0 0) := (blk_cell BK4.out 1).trans rfl; have hfz101_0 := blk_frozen BK4.out 0; have hfz101_1 := blk_frozen BK4.out 1))
           refine bodyPost_ret (results_ct rfl _ _ g4 50 #[.slice none 0 0, .slice none 0 0] (0, 0) _ rfl (by (with_reducible repeat (first | refine blk_drewN ?_ _ | refine blk_drew ?_ | refine blk_alloc ?_ _)); refine blk_put (cs := #[.slice none 0 0, .slice none 0 0]) ?_ 1 _ rfl; (with_reducible repeat (first | refine blk_drewN ?_ _ | refine blk_drew ?_ | refine blk_alloc ?_ _)); refine blk_put (cs := #[.slice none 0 0, .slice none 0 0]) ?_ 0 _ rfl; (with_reducible repeat (first | refine blk_drewN ?_ _ | refine blk_drew ?_ | refine blk_alloc ?_ _)); exact BK4.out) Try.underlying50 rfl (by kernel_rfl)) rfl ?_
           exact ⟨_, _, by first | rfl | (simp [errW_none, errW_some] <;> rfl) | (simp only [← hji50, ← hji53]; first | rfl | (simp [errW_none, errW_some] <;> rfl)) | (simp [*, errW_none, errW_some] <;> rfl), by first | exact Kd.R_nil _ _ _ _ _ | exact Kd.S_nil _ _ _ _ _ | exact Kd.V_nil _ _ _ _ _ | exact Kd.Q_nil _ _ _ _ _ | exact Kd.S_nil _ _ _ _ _, by first | exact Kd.S_nil _ _ _ _ _ | exact Kd.S_nil _ _ _ _ _ | exact Kd.V_nil _ _ _ _ _ | exact Kd.Q_nil _ _ _ _ _ | exact Kd.R_nil _ _ _ _ _, hbA HB⟩
        ·
         rw [if_neg c55] at H
         exact absurd H (by simp)
       ·
        rw [if_neg c54] at H
        exact absurd H (by simp)
      ·
       rw [if_neg c52] at H
       exact absurd H (by simp)
     ·
      rw [if_neg c51] at H
      exact absurd H (by simp)
    ·
     rw [if_neg c49] at H
     have c49b0 : decide (1 < x7_2) = false := decide_eq_false c49
     clear c49
     replace H := Option.bind_eq_some_iff.mp H
     obtain ⟨t233, A1020, H⟩ := H
     replace H : (if t233 = true then (some (x216000_2, x216001_2, true)) else (some (([] : List Int), ([] : List (List Int)), false))) = some (r1, r2, r3) := H
     have A102 := Aside0.mk A1020
     clear A1020
     by_cases c103 : t233 = true
     ·
      subst c103
      have H1 : (some (x216000_2, x216001_2, true)) = some (r1, r2, r3) := by rw [if_pos rfl] at H; exact H
      clear H
      have H := H1
      clear H1
      simp only [Option.some.injEq, Prod.mk.injEq] at H
      obtain ⟨rfl, rfl, rfl⟩ := H
      try go_wp2
      have n0_ := Aside0.mk (Kd.R_drew HO_216000.out)
      have n1_ := Aside0.mk (Kd.S_drew HO_216001.out)
      have n2_ := Aside0.mk (blk_drew BK2.out)
      have n3_ := Aside0.mk (blk_drew BK4.out)
      have n4_ := Aside0.mk (blk_drew BK215.out)
      have n5_ := Aside0.mk (below_drew1 HB.out)
      clear HO_216000
      clear HO_216001
      clear BK2
      clear BK4
      clear BK215
      clear HB
      have HO_216000 := n0_
      have HO_216001 := n1_
      have BK2 := n2_
      have BK4 := n3_
      have BK215 := n4_
      have HB := n5_
      clear n0_ n1_ n2_ n3_ n4_ n5_
      refine start_ (n := 17) (S := fun w' => True) (ds := []) #[false, false, false, false, false, false, false, false, false, false, false, false, false, false, false, false, false] (by kernel_rfl) rfl rfl trivial (fun hHeld => ?_); refine with_tabW impl_StackPush.tab5 impl_StackPush.bits5 (fun HT_ HW_ => ?_)
      generalize wr.drew = w104 at HO_216000 HO_216001 BK2 BK4 BK215 HB hHeld ⊢
      refine pure_ (i := 0) (N := some 35) (v := ?_) (a' := ?_) #[true, false, false, false, false, false, false, false, false, false, false, false, false, false, false, false, false] rfl rfl (any_of HT_.out (by kernel_rfl)) (fun _ _ _ h => h) (Or.inl ⟨by rfl, ?_⟩) ?_ ?_
      rotate_left
      ·
       intro w'
       go_simp
       with_reducible rfl
      rotate_left
      ·
       simp only [Act.put, List.setIfInBounds_toArray, List.set_cons_zero, List.set_cons_succ, i64_w, i32_w]
       rfl
      refine pure_ (i := 1) (N := some 36) (v := ?_) (a' := ?_) #[true, true, false, false, false, false, false, false, false, false, false, false, false, false, false, false, false] rfl rfl (any_of HT_.out (by kernel_rfl)) (fun _ _ _ h => h) (Or.inl ⟨by rfl, ?_⟩) ?_ ?_
      rotate_left
      ·
       intro w'
       go_simp
       with_reducible rfl
      rotate_left
      ·
       simp only [Act.put, List.setIfInBounds_toArray, List.set_cons_zero, List.set_cons_succ, i64_w, i32_w]
       rfl
      refine pure_ (i := 2) (N := some 37) (v := ?_) (a' := ?_) #[true, true, true, false, false, false, false, false, false, false, false, false, false, false, false, false, false] rfl rfl (any_of HT_.out (by kernel_rfl)) (fun _ _ _ h => h) (Or.inl ⟨by rfl, ?_⟩) ?_ ?_
      rotate_left
      ·
       intro w'
       go_simp
       with_reducible rfl
      rotate_left
      ·
       simp only [Act.put, List.setIfInBounds_toArray, List.set_cons_zero, List.set_cons_succ, i64_w, i32_w]
       rfl
      refine pure_ (i := 3) (N := some 38) (v := undef) (a' := ?_) #[true, true, true, true, false, false, false, false, false, false, false, false, false, false, false, false, false] rfl rfl (any_of HT_.out (by kernel_rfl)) (fun _ _ _ h => h) (Or.inr ⟨by rfl, rfl⟩) ?_ ?_
      rotate_left
      ·
       simp only [Act.put, List.setIfInBounds_toArray, List.set_cons_zero, List.set_cons_succ, i64_w, i32_w]
       rfl
      refine pure_ (i := 4) (N := some 39) (v := undef) (a' := ?_) #[true, true, true, true, true, false, false, false, false, false, false, false, false, false, false, false, false] rfl rfl (any_of HT_.out (by kernel_rfl)) (fun _ _ _ h => h) (Or.inr ⟨by rfl, rfl⟩) ?_ ?_
      rotate_left
      ·
       simp only [Act.put, List.setIfInBounds_toArray, List.set_cons_zero, List.set_cons_succ, i64_w, i32_w]
       rfl
      refine pure_ (i := 5) (N := some 40) (v := undef) (a' := ?_) #[true, true, true, true, true, true, false, false, false, false, false, false, false, false, false, false, false] rfl rfl (any_of HT_.out (by kernel_rfl)) (fun _ _ _ h => h) (Or.inr ⟨by rfl, rfl⟩) ?_ ?_
      rotate_left
      ·
       simp only [Act.put, List.setIfInBounds_toArray, List.set_cons_zero, List.set_cons_succ, i64_w, i32_w]
       rfl
      refine pure_ (i := 6) (N := some 41) (v := undef) (a' := ?_) #[true, true, true, true, true, true, true, false, false, false, false, false, false, false, false, false, false] rfl rfl (any_of HT_.out (by kernel_rfl)) (fun _ _ _ h => h) (Or.inr ⟨by rfl, rfl⟩) ?_ ?_
      rotate_left
      ·
       simp only [Act.put, List.setIfInBounds_toArray, List.set_cons_zero, List.set_cons_succ, i64_w, i32_w]
       rfl
      refine pure_ (i := 7) (N := some 42) (v := undef) (a' := ?_) #[true, true, true, true, true, true, true, true, false, false, false, false, false, false, false, false, false] rfl rfl (any_of HT_.out (by kernel_rfl)) (fun _ _ _ h => h) (Or.inr ⟨by rfl, rfl⟩) ?_ ?_
      rotate_left
      ·
       simp only [Act.put, List.setIfInBounds_toArray, List.set_cons_zero, List.set_cons_succ, i64_w, i32_w]
       rfl
      refine pure_ (i := 8) (N := some 43) (v := undef) (a' := ?_) #[true, true, true, true, true, true, true, true, true, false, false, false, false, false, false, false, false] rfl rfl (any_of HT_.out (by kernel_rfl)) (fun _ _ _ h => h) (Or.inr ⟨by rfl, rfl⟩) ?_ ?_
      rotate_left
      ·
       simp only [Act.put, List.setIfInBounds_toArray, List.set_cons_zero, List.set_cons_succ, i64_w, i32_w]
       rfl
      refine pure_ (i := 9) (N := some 44) (v := undef) (a' := ?_) #[true, true, true, true, true, true, true, true, true, true, false, false, false, false, false, false, false] rfl rfl (any_of HT_.out (by kernel_rfl)) (fun _ _ _ h => h) (Or.inr ⟨by rfl, rfl⟩) ?_ ?_
      rotate_left
      ·
       simp only [Act.put, List.setIfInBounds_toArray, List.set_cons_zero, List.set_cons_succ, i64_w, i32_w]
       rfl
      refine pure_ (i := 10) (N := some 45) (v := undef) (a' := ?_) #[true, true, true, true, true, true, true, true, true, true, true, false, false, false, false, false, false] rfl rfl (any_of HT_.out (by kernel_rfl)) (fun _ _ _ h => h) (Or.inr ⟨by rfl, rfl⟩) ?_ ?_
      rotate_left
      ·
       simp only [Act.put, List.setIfInBounds_toArray, List.set_cons_zero, List.set_cons_succ, i64_w, i32_w]
       rfl
      refine pure_ (i := 11) (N := some 46) (v := undef) (a' := ?_) #[true, true, true, true, true, true, true, true, true, true, true, true, false, false, false, false, false] rfl rfl (any_of HT_.out (by kernel_rfl)) (fun _ _ _ h => h) (Or.inr ⟨by rfl, rfl⟩) ?_ ?_
      rotate_left
      ·
       simp only [Act.put, List.setIfInBounds_toArray, List.set_cons_zero, List.set_cons_succ, i64_w, i32_w]
       rfl
      refine pure_ (i := 12) (N := some 47) (v := undef) (a' := ?_) #[true, true, true, true, true, true, true, true, true, true, true, true, true, false, false, false, false] rfl rfl (any_of HT_.out (by kernel_rfl)) (fun _ _ _ h => h) (Or.inr ⟨by rfl, rfl⟩) ?_ ?_
      rotate_left
      ·
       simp only [Act.put, List.setIfInBounds_toArray, List.set_cons_zero, List.set_cons_succ, i64_w, i32_w]
       rfl
      refine pure_ (i := 13) (N := some 48) (v := undef) (a' := ?_) #[true, true, true, true, true, true, true, true, true, true, true, true, true, true, false, false, false] rfl rfl (any_of HT_.out (by kernel_rfl)) (fun _ _ _ h => h) (Or.inr ⟨by rfl, rfl⟩) ?_ ?_
      rotate_left
      ·
       simp only [Act.put, List.setIfInBounds_toArray, List.set_cons_zero, List.set_cons_succ, i64_w, i32_w]
       rfl
      refine pure_ (i := 14) (N := some 49) (v := undef) (a' := ?_) #[true, true, true, true, true, true, true, true, true, true, true, true, true, true, true, false, false] rfl rfl (any_of HT_.out (by kernel_rfl)) (fun _ _ _ h => h) (Or.inr ⟨by rfl, rfl⟩) ?_ ?_
      rotate_left
      ·
       simp only [Act.put, List.setIfInBounds_toArray, List.set_cons_zero, List.set_cons_succ, i64_w, i32_w]
       rfl
      refine pure_ (i := 15) (N := some 50) (v := undef) (a' := ?_) #[true, true, true, true, true, true, true, true, true, true, true, true, true, true, true, true, false] rfl rfl (any_of HT_.out (by kernel_rfl)) (fun _ _ _ h => h) (Or.inr ⟨by rfl, rfl⟩) ?_ ?_
      rotate_left
      ·
       simp only [Act.put, List.setIfInBounds_toArray, List.set_cons_zero, List.set_cons_succ, i64_w, i32_w]
       rfl
      refine pure_ (i := 16) (N := some 51) (v := ?_) (a' := ?_) #[true, true, true, true, true, true, true, true, true, true, true, true, true, true, true, true, true] rfl rfl (any_of HT_.out (by kernel_rfl)) (fun _ _ _ h => h) (Or.inl ⟨by rfl, ?_⟩) ?_ ?_
      rotate_left
      ·
       intro w'
       go_simp
       with_reducible rfl
      rotate_left
      ·
       simp only [Act.put, List.setIfInBounds_toArray, List.set_cons_zero, List.set_cons_succ, i64_w, i32_w]
       rfl
      refine done_ (done_of HT_.out (by kernel_rfl)) ?_
      have hnb105 := NB215_187.out
      have hnc105 := NB187_215.out
      have hnb106 := NB215_188.out
      have hnc106 := NB188_215.out
      have hcz107_0 : w104.cell? ⟨G, 0, none⟩ = some (u216000) := (blk_cell BK215.out 0).trans rfl
      have hcz107_1 : w104.cell? ⟨G, 1, none⟩ = some (u216001) := (blk_cell BK215.out 1).trans rfl
      have hfz107_0 := blk_frozen BK215.out 0
      have hfz107_1 := blk_frozen BK215.out 1
      obtain ⟨Ao108, co108, eo108⟩ := Kd.R_slice HO_216000.out
      subst eo108
      obtain ⟨Ao109, co109, eo109⟩ := Kd.S_slice HO_216001.out
      subst eo109
      try go_wp2_with (first | ((with_reducible refine gate_callee (f := 54) rfl ?_); refine goesL_ (some 93) rfl rfl Try.func54 (by kernel_rfl) rfl #[.agg #[.slice Ao108 x216000_2.length co108, .slice Ao109 x216001_2.length co109]] rfl mtA ?_; (with_reducible refine (impl_StackOk.calls k2 _ _ x216000_2 _ _ x216001_2 true _ ?side1 ?side2 ?side3 ?side4 A102.out).mono ?_); (case side1 => repeat (first | exact (Kd.R_reads' HO_216000.out).2.2 | (with_reducible refine Kd.C_alloc ?_ _) | (with_reducible refine Kd.C_drewN ?_ _) | (with_reducible refine Kd.C_drew ?_))); (case side2 => exact (Kd.R_reads' HO_216000.out).2.1); (case side3 => repeat (first | exact (Kd.S_reads' HO_216001.out).2.2 | (with_reducible refine Kd.C_alloc ?_ _) | (with_reducible refine Kd.C_drewN ?_ _) | (with_reducible refine Kd.C_drew ?_))); (case side4 => exact (Kd.S_reads' HO_216001.out).2.1); rintro e w110 ⟨rfl, hb⟩; refine ⟨_, rfl, ?_⟩; have n0_ := Aside0.mk (Kd.R_below (rA HO_216000.out) hb); have n1_ := Aside0.mk (Kd.S_below (sA HO_216001.out) hb); have n2_ := Aside0.mk (blk_below (g := g2) (o := .cells #[.slice A0 l0.length c0, .slice A1 l1.length c1] 50 (0, 0)) (bkA BK2.out) hb); have n3_ := Aside0.mk (blk_below (g := g4) (o := .cells #[.slice none 0 0, .slice none 0 0] 50 (0, 0)) (bkA BK4.out) hb); have n4_ := Aside0.mk (blk_below (g := G) (o := .cells #[.slice Ao108 x216000_2.length co108, .slice Ao109 x216001_2.length co109] 50 (0, 0)) (bkA BK215.out) hb); have n5_ := Aside0.mk (below_step (hbA HB) hb); clear HO_216000; clear HO_216001; clear BK2; clear BK4; clear BK215; clear HB; have HO_216000 := n0_; have HO_216001 := n1_; have BK2 := n2_; have BK4 := n3_; have BK215 := n4_; have HB := n5_; clear n0_ n1_ n2_ n3_ n4_ n5_; (try clear hb); (try clear hb2); (try clear hk); (try clear hi); have hcz111_0 : w110.cell? ⟨G, 0, none⟩ = some (.slice Ao108 x216000_2.length co108) := (blk_cell BK215.out 0).trans rfl; have hcz111_1 : w110.cell? ⟨G, 1, none⟩ = some (.slice Ao109 x216001_2.length co109) := (blk_cell BK215.out 1).trans rfl; have hfz111_0 := blk_frozen BK215.out 0; have hfz111_1 := blk_frozen BK215.out 1; have hnb112 := G42.out; have hnc112 := G24.out; have hcz113_0 : w110.cell? ⟨g4, 0, none⟩ = some (.slice none 0 0) := (blk_cell BK4.out 0).trans rfl; have hcz113_1 : w110.cell? ⟨g4, 1, none⟩ = some (.slice none 0 0) := (blk_cell BK4.out 1).trans rfl; have hfz113_0 := blk_frozen BK4.out 0; have hfz113_1 := blk_frozen BK4.out 1))
      refine bodyPost_ret (results_ct rfl _ _ g4 50 #[.slice Ao108 x216000_2.length co108, .slice Ao109 x216001_2.length co109] (0, 0) _ rfl (by (with_reducible repeat (first | refine blk_drewN ?_ _ | refine blk_drew ?_ | refine blk_alloc ?_ _)); refine blk_put (cs := #[.slice Ao108 x216000_2.length co108, .slice none 0 0]) ?_ 1 _ rfl; (with_reducible repeat (first | refine blk_drewN ?_ _ | refine blk_drew ?_ | refine blk_alloc ?_ _)); refine blk_put (cs := #[.slice none 0 0, .slice none 0 0]) ?_ 0 _ rfl; (with_reducible repeat (first | refine blk_drewN ?_ _ | refine blk_drew ?_ | refine blk_alloc ?_ _)); exact BK4.out) Try.underlying50 rfl (by kernel_rfl)) rfl ?_
      exact ⟨_, _, by first | rfl | (simp [errW_none, errW_some] <;> rfl) | (simp [*, errW_none, errW_some] <;> rfl), by (with_reducible repeat (first | apply Kd.R_alloc | apply Kd.R_drewN | apply Kd.R_drew)); exact Kd.R_mono (Kd.R_far (p := ⟨g4, 1, none⟩) (Kd.R_far (p := ⟨g4, 0, none⟩) (Kd.R_types HO_216000.out BK4.out (by decide)) (fun _ hk => hk.2) (.slice Ao108 x216000_2.length co108)) (fun _ hk => hk.2) (.slice Ao109 x216001_2.length co109)) (fun _ hk => hk.1), by (with_reducible repeat (first | apply Kd.S_alloc | apply Kd.S_drewN | apply Kd.S_drew)); exact Kd.S_mono (Kd.S_far (p := ⟨g4, 1, none⟩) (Kd.S_far (p := ⟨g4, 0, none⟩) (Kd.S_mono HO_216001.out (fun k_ hk => (⟨hk, hk.2.2.2.1⟩ : _ ∧ k_ ≠ g4))) (fun _ hk => hk.2) (.slice Ao108 x216000_2.length co108)) (fun _ hk => hk.2) (.slice Ao109 x216001_2.length co109)) (fun _ hk => ⟨hk.1.1, hk.1.2.1⟩), hbA HB⟩
     ·
      replace c103 := Bool.eq_false_iff.mpr c103
      subst c103
      have H1 : (some (([] : List Int), ([] : List (List Int)), false)) = some (r1, r2, r3) := by rw [if_neg (show ¬ (false = true) by decide)] at H; exact H
      clear H
      have H := H1
      clear H1
      simp only [Option.some.injEq, Prod.mk.injEq] at H
      obtain ⟨rfl, rfl, rfl⟩ := H
      try go_wp2
      have n0_ := Aside0.mk (Kd.R_drew HO_216000.out)
      have n1_ := Aside0.mk (Kd.S_drew HO_216001.out)
      have n2_ := Aside0.mk (blk_drew BK2.out)
      have n3_ := Aside0.mk (blk_drew BK4.out)
      have n4_ := Aside0.mk (blk_drew BK215.out)
      have n5_ := Aside0.mk (below_drew1 HB.out)
      clear HO_216000
      clear HO_216001
      clear BK2
      clear BK4
      clear BK215
      clear HB
      have HO_216000 := n0_
      have HO_216001 := n1_
      have BK2 := n2_
      have BK4 := n3_
      have BK215 := n4_
      have HB := n5_
      clear n0_ n1_ n2_ n3_ n4_ n5_
      refine start_ (n := 17) (S := fun w' => True) (ds := []) #[false, false, false, false, false, false, false, false, false, false, false, false, false, false, false, false, false] (by kernel_rfl) rfl rfl trivial (fun hHeld => ?_); refine with_tabW impl_StackPush.tab5 impl_StackPush.bits5 (fun HT_ HW_ => ?_)
      generalize wr.drew = w114 at HO_216000 HO_216001 BK2 BK4 BK215 HB hHeld ⊢
      refine pure_ (i := 0) (N := some 35) (v := ?_) (a' := ?_) #[true, false, false, false, false, false, false, false, false, false, false, false, false, false, false, false, false] rfl rfl (any_of HT_.out (by kernel_rfl)) (fun _ _ _ h => h) (Or.inl ⟨by rfl, ?_⟩) ?_ ?_
      rotate_left
      ·
       intro w'
       go_simp
       with_reducible rfl
      rotate_left
      ·
       simp only [Act.put, List.setIfInBounds_toArray, List.set_cons_zero, List.set_cons_succ, i64_w, i32_w]
       rfl
      refine pure_ (i := 1) (N := some 36) (v := ?_) (a' := ?_) #[true, true, false, false, false, false, false, false, false, false, false, false, false, false, false, false, false] rfl rfl (any_of HT_.out (by kernel_rfl)) (fun _ _ _ h => h) (Or.inl ⟨by rfl, ?_⟩) ?_ ?_
      rotate_left
      ·
       intro w'
       go_simp
       with_reducible rfl
      rotate_left
      ·
       simp only [Act.put, List.setIfInBounds_toArray, List.set_cons_zero, List.set_cons_succ, i64_w, i32_w]
       rfl
      refine pure_ (i := 2) (N := some 37) (v := ?_) (a' := ?_) #[true, true, true, false, false, false, false, false, false, false, false, false, false, false, false, false, false] rfl rfl (any_of HT_.out (by kernel_rfl)) (fun _ _ _ h => h) (Or.inl ⟨by rfl, ?_⟩) ?_ ?_
      rotate_left
      ·
       intro w'
       go_simp
       with_reducible rfl
      rotate_left
      ·
       simp only [Act.put, List.setIfInBounds_toArray, List.set_cons_zero, List.set_cons_succ, i64_w, i32_w]
       rfl
      refine pure_ (i := 3) (N := some 38) (v := undef) (a' := ?_) #[true, true, true, true, false, false, false, false, false, false, false, false, false, false, false, false, false] rfl rfl (any_of HT_.out (by kernel_rfl)) (fun _ _ _ h => h) (Or.inr ⟨by rfl, rfl⟩) ?_ ?_
      rotate_left
      ·
       simp only [Act.put, List.setIfInBounds_toArray, List.set_cons_zero, List.set_cons_succ, i64_w, i32_w]
       rfl
      refine pure_ (i := 4) (N := some 39) (v := undef) (a' := ?_) #[true, true, true, true, true, false, false, false, false, false, false, false, false, false, false, false, false] rfl rfl (any_of HT_.out (by kernel_rfl)) (fun _ _ _ h => h) (Or.inr ⟨by rfl, rfl⟩) ?_ ?_
      rotate_left
      ·
       simp only [Act.put, List.setIfInBounds_toArray, List.set_cons_zero, List.set_cons_succ, i64_w, i32_w]
       rfl
      refine pure_ (i := 5) (N := some 40) (v := undef) (a' := ?_) #[true, true, true, true, true, true, false, false, false, false, false, false, false, false, false, false, false] rfl rfl (any_of HT_.out (by kernel_rfl)) (fun _ _ _ h => h) (Or.inr ⟨by rfl, rfl⟩) ?_ ?_
      rotate_left
      ·
       simp only [Act.put, List.setIfInBounds_toArray, List.set_cons_zero, List.set_cons_succ, i64_w, i32_w]
       rfl
      refine pure_ (i := 6) (N := some 41) (v := undef) (a' := ?_) #[true, true, true, true, true, true, true, false, false, false, false, false, false, false, false, false, false] rfl rfl (any_of HT_.out (by kernel_rfl)) (fun _ _ _ h => h) (Or.inr ⟨by rfl, rfl⟩) ?_ ?_
      rotate_left
      ·
       simp only [Act.put, List.setIfInBounds_toArray, List.set_cons_zero, List.set_cons_succ, i64_w, i32_w]
       rfl
      refine pure_ (i := 7) (N := some 42) (v := undef) (a' := ?_) #[true, true, true, true, true, true, true, true, false, false, false, false, false, false, false, false, false] rfl rfl (any_of HT_.out (by kernel_rfl)) (fun _ _ _ h => h) (Or.inr ⟨by rfl, rfl⟩) ?_ ?_
      rotate_left
      ·
       simp only [Act.put, List.setIfInBounds_toArray, List.set_cons_zero, List.set_cons_succ, i64_w, i32_w]
       rfl
      refine pure_ (i := 8) (N := some 43) (v := undef) (a' := ?_) #[true, true, true, true, true, true, true, true, true, false, false, false, false, false, false, false, false] rfl rfl (any_of HT_.out (by kernel_rfl)) (fun _ _ _ h => h) (Or.inr ⟨by rfl, rfl⟩) ?_ ?_
      rotate_left
      ·
       simp only [Act.put, List.setIfInBounds_toArray, List.set_cons_zero, List.set_cons_succ, i64_w, i32_w]
       rfl
      refine pure_ (i := 9) (N := some 44) (v := undef) (a' := ?_) #[true, true, true, true, true, true, true, true, true, true, false, false, false, false, false, false, false] rfl rfl (any_of HT_.out (by kernel_rfl)) (fun _ _ _ h => h) (Or.inr ⟨by rfl, rfl⟩) ?_ ?_
      rotate_left
      ·
       simp only [Act.put, List.setIfInBounds_toArray, List.set_cons_zero, List.set_cons_succ, i64_w, i32_w]
       rfl
      refine pure_ (i := 10) (N := some 45) (v := undef) (a' := ?_) #[true, true, true, true, true, true, true, true, true, true, true, false, false, false, false, false, false] rfl rfl (any_of HT_.out (by kernel_rfl)) (fun _ _ _ h => h) (Or.inr ⟨by rfl, rfl⟩) ?_ ?_
      rotate_left
      ·
       simp only [Act.put, List.setIfInBounds_toArray, List.set_cons_zero, List.set_cons_succ, i64_w, i32_w]
       rfl
      refine pure_ (i := 11) (N := some 46) (v := undef) (a' := ?_) #[true, true, true, true, true, true, true, true, true, true, true, true, false, false, false, false, false] rfl rfl (any_of HT_.out (by kernel_rfl)) (fun _ _ _ h => h) (Or.inr ⟨by rfl, rfl⟩) ?_ ?_
      rotate_left
      ·
       simp only [Act.put, List.setIfInBounds_toArray, List.set_cons_zero, List.set_cons_succ, i64_w, i32_w]
       rfl
      refine pure_ (i := 12) (N := some 47) (v := undef) (a' := ?_) #[true, true, true, true, true, true, true, true, true, true, true, true, true, false, false, false, false] rfl rfl (any_of HT_.out (by kernel_rfl)) (fun _ _ _ h => h) (Or.inr ⟨by rfl, rfl⟩) ?_ ?_
      rotate_left
      ·
       simp only [Act.put, List.setIfInBounds_toArray, List.set_cons_zero, List.set_cons_succ, i64_w, i32_w]
       rfl
      refine pure_ (i := 13) (N := some 48) (v := undef) (a' := ?_) #[true, true, true, true, true, true, true, true, true, true, true, true, true, true, false, false, false] rfl rfl (any_of HT_.out (by kernel_rfl)) (fun _ _ _ h => h) (Or.inr ⟨by rfl, rfl⟩) ?_ ?_
      rotate_left
      ·
       simp only [Act.put, List.setIfInBounds_toArray, List.set_cons_zero, List.set_cons_succ, i64_w, i32_w]
       rfl
      refine pure_ (i := 14) (N := some 49) (v := undef) (a' := ?_) #[true, true, true, true, true, true, true, true, true, true, true, true, true, true, true, false, false] rfl rfl (any_of HT_.out (by kernel_rfl)) (fun _ _ _ h => h) (Or.inr ⟨by rfl, rfl⟩) ?_ ?_
      rotate_left
      ·
       simp only [Act.put, List.setIfInBounds_toArray, List.set_cons_zero, List.set_cons_succ, i64_w, i32_w]
       rfl
      refine pure_ (i := 15) (N := some 50) (v := undef) (a' := ?_) #[true, true, true, true, true, true, true, true, true, true, true, true, true, true, true, true, false] rfl rfl (any_of HT_.out (by kernel_rfl)) (fun _ _ _ h => h) (Or.inr ⟨by rfl, rfl⟩) ?_ ?_
      rotate_left
      ·
       simp only [Act.put, List.setIfInBounds_toArray, List.set_cons_zero, List.set_cons_succ, i64_w, i32_w]
       rfl
      refine pure_ (i := 16) (N := some 51) (v := ?_) (a' := ?_) #[true, true, true, true, true, true, true, true, true, true, true, true, true, true, true, true, true] rfl rfl (any_of HT_.out (by kernel_rfl)) (fun _ _ _ h => h) (Or.inl ⟨by rfl, ?_⟩) ?_ ?_
      rotate_left
      ·
       intro w'
       go_simp
       with_reducible rfl
      rotate_left
      ·
       simp only [Act.put, List.setIfInBounds_toArray, List.set_cons_zero, List.set_cons_succ, i64_w, i32_w]
       rfl
      refine done_ (done_of HT_.out (by kernel_rfl)) ?_
      have hnb115 := NB215_187.out
      have hnc115 := NB187_215.out
      have hnb116 := NB215_188.out
      have hnc116 := NB188_215.out
      have hcz117_0 : w114.cell? ⟨G, 0, none⟩ = some (u216000) := (blk_cell BK215.out 0).trans rfl
      have hcz117_1 : w114.cell? ⟨G, 1, none⟩ = some (u216001) := (blk_cell BK215.out 1).trans rfl
      have hfz117_0 := blk_frozen BK215.out 0
      have hfz117_1 := blk_frozen BK215.out 1
      obtain ⟨Ao118, co118, eo118⟩ := Kd.R_slice HO_216000.out
      subst eo118
      obtain ⟨Ao119, co119, eo119⟩ := Kd.S_slice HO_216001.out
      subst eo119
      try go_wp2_with (first | ((with_reducible refine gate_callee (f := 54) rfl ?_); refine goesL_ (some 93) rfl rfl Try.func54 (by kernel_rfl) rfl #[.agg #[.slice Ao118 x216000_2.length co118, .slice Ao119 x216001_2.length co119]] rfl mtA ?_; (with_reducible refine (impl_StackOk.calls k2 _ _ x216000_2 _ _ x216001_2 false _ ?side1 ?side2 ?side3 ?side4 A102.out).mono ?_); (case side1 => repeat (first | exact (Kd.R_reads' HO_216000.out).2.2 | (with_reducible refine Kd.C_alloc ?_ _) | (with_reducible refine Kd.C_drewN ?_ _) | (with_reducible refine Kd.C_drew ?_))); (case side2 => exact (Kd.R_reads' HO_216000.out).2.1); (case side3 => repeat (first | exact (Kd.S_reads' HO_216001.out).2.2 | (with_reducible refine Kd.C_alloc ?_ _) | (with_reducible refine Kd.C_drewN ?_ _) | (with_reducible refine Kd.C_drew ?_))); (case side4 => exact (Kd.S_reads' HO_216001.out).2.1); rintro e w120 ⟨rfl, hb⟩; refine ⟨_, rfl, ?_⟩; have n0_ := Aside0.mk (Kd.R_below (rA HO_216000.out) hb); have n1_ := Aside0.mk (Kd.S_below (sA HO_216001.out) hb); have n2_ := Aside0.mk (blk_below (g := g2) (o := .cells #[.slice A0 l0.length c0, .slice A1 l1.length c1] 50 (0, 0)) (bkA BK2.out) hb); have n3_ := Aside0.mk (blk_below (g := g4) (o := .cells #[.slice none 0 0, .slice none 0 0] 50 (0, 0)) (bkA BK4.out) hb); have n4_ := Aside0.mk (blk_below (g := G) (o := .cells #[.slice Ao118 x216000_2.length co118, .slice Ao119 x216001_2.length co119] 50 (0, 0)) (bkA BK215.out) hb); have n5_ := Aside0.mk (below_step (hbA HB) hb); clear HO_216000; clear HO_216001; clear BK2; clear BK4; clear BK215; clear HB; have HO_216000 := n0_; have HO_216001 := n1_; have BK2 := n2_; have BK4 := n3_; have BK215 := n4_; have HB := n5_; clear n0_ n1_ n2_ n3_ n4_ n5_; (try clear hb); (try clear hb2); (try clear hk); (try clear hi); have hnb121 := G42.out; have hnc121 := G24.out; have hcz122_0 : w120.cell? ⟨g4, 0, none⟩ = some (.slice none 0 0) := (blk_cell BK4.out 0).trans rfl; have hcz122_1 : w120.cell? ⟨g4, 1, none⟩ = some (.slice none 0 0) := (blk_cell BK4.out 1).trans rfl; have hfz122_0 := blk_frozen BK4.out 0; have hfz122_1 := blk_frozen BK4.out 1))
      refine bodyPost_ret (results_ct rfl _ _ g4 50 #[.slice none 0 0, .slice none 0 0] (0, 0) _ rfl (by (with_reducible repeat (first | refine blk_drewN ?_ _ | refine blk_drew ?_ | refine blk_alloc ?_ _)); refine blk_put (cs := #[.slice none 0 0, .slice none 0 0]) ?_ 1 _ rfl; (with_reducible repeat (first | refine blk_drewN ?_ _ | refine blk_drew ?_ | refine blk_alloc ?_ _)); refine blk_put (cs := #[.slice none 0 0, .slice none 0 0]) ?_ 0 _ rfl; (with_reducible repeat (first | refine blk_drewN ?_ _ | refine blk_drew ?_ | refine blk_alloc ?_ _)); exact BK4.out) Try.underlying50 rfl (by kernel_rfl)) rfl ?_
      exact ⟨_, _, by first | rfl | (simp [errW_none, errW_some] <;> rfl) | (simp [*, errW_none, errW_some] <;> rfl), by first | exact Kd.R_nil _ _ _ _ _ | exact Kd.S_nil _ _ _ _ _ | exact Kd.V_nil _ _ _ _ _ | exact Kd.Q_nil _ _ _ _ _ | exact Kd.S_nil _ _ _ _ _, by first | exact Kd.S_nil _ _ _ _ _ | exact Kd.S_nil _ _ _ _ _ | exact Kd.V_nil _ _ _ _ _ | exact Kd.Q_nil _ _ _ _ _ | exact Kd.R_nil _ _ _ _ _, hbA HB⟩

set_option maxHeartbeats 8000000 in
set_option maxRecDepth 100000 in
theorem impl_StackPush.calls (k : Nat) (A0 : Option Addr) (c0 : Nat) (l0 : List Int) (A1 : Option Addr) (c1 : Nat) (l1 : List (List Int)) (A2 : Option Addr) (c2 : Nat) (l2 : List Int) (r1 : List Int) (r2 : List (List Int)) (r3 : Bool) (w : World) (hr0 : Kd.C (Kd.int .i64) w A0 l0.length l0) (hc0 : l0.length ≤ c0) (hr1 : Kd.C (Kd.slice 5 (Kd.int .u8)) w A1 l1.length l1) (hc1 : l1.length ≤ c1) (hr2 : Kd.C (Kd.int .u8) w A2 l2.length l2) (hc2 : l2.length ≤ c2) (h : impl_StackPush.f k l0 l1 l2 = some (r1, r2, r3)) :
  Calls Try.prog 53 #[.agg #[.slice A0 l0.length c0, .slice A1 l1.length c1], .slice A2 l2.length c2] w fun e w' => ∃ v0_ v1_ : Value, e = .returned (.tuple #[.agg #[v0_, v1_], .bool r3]) ∧ Kd.R (Kd.int .i64) 3 w' w.heap.size (fun k_ => (w.heap.size ≤ k_)) v0_ r1 ∧ Kd.S (Kd.slice 5 (Kd.int .u8)) 23 w' w.heap.size (fun k_ => (w.heap.size ≤ k_) ∧ some k_ ≠ (v0_ : Value).ownBlock) v1_ r2 ∧ Below w.heap.size w w' := by
 unfold impl_StackPush.f at h
 obtain ⟨b1, e1, h⟩ := Option.bind_eq_some_iff.mp h
 cases b1 with
 | false =>
  rw [if_neg Bool.false_ne_true] at h
  cases k with
  | zero => exact absurd h (by simp [impl_StackPush.j0])
  | succ k =>
   simp only [impl_StackPush.j0, if_true, Option.some.injEq, Prod.mk.injEq] at h
   obtain ⟨rfl, rfl, rfl⟩ := h
   exact push_no1 (k + 1) A0 c0 l0 A1 c1 l1 A2 c2 l2 w hr0 hc0 hr1 hc1 hr2 hc2 e1
 | true =>
  rw [if_pos rfl] at h
  obtain ⟨b2, e2, h⟩ := Option.bind_eq_some_iff.mp h
  cases k with
  | zero => exact absurd h (by simp [impl_StackPush.j0])
  | succ k =>
   cases b2 with
   | false =>
    simp only [impl_StackPush.j0, Bool.not_false, if_true, Option.some.injEq, Prod.mk.injEq] at h
    obtain ⟨rfl, rfl, rfl⟩ := h
    exact push_no2 (k + 1) A0 c0 l0 A1 c1 l1 A2 c2 l2 w hr0 hc0 hr1 hc1 hr2 hc2 e1 e2
   | true =>
    simp only [impl_StackPush.j0, Bool.not_true, if_neg Bool.false_ne_true, Option.bind_some, List.nil_append] at h
    by_cases b3 : ([] : List Int).length + l0.length < 17592186044416
    ·
     rw [if_pos b3] at h
     by_cases b4 : l0.length + [(0 : Int)].length < 17592186044416
     ·
      rw [if_pos b4] at h
      obtain ⟨t1, e3, h⟩ := Option.bind_eq_some_iff.mp h
      obtain ⟨t2, e4, h⟩ := Option.bind_eq_some_iff.mp h
      by_cases b5 : t1.length + [t2].length < 5864062014805
      ·
       rw [if_pos b5] at h
       exact push_core (k + 1) A0 c0 l0 A1 c1 l1 A2 c2 l2 k t1 t2 r1 r2 r3 w hr0 hc0 hr1 hc1 hr2 hc2 e1 e2 e3 e4 ⟨b4, b5⟩ h
      ·
       rw [if_neg b5] at h
       exact absurd h (by simp)
     ·
      rw [if_neg b4] at h
      exact absurd h (by simp)
    ·
     rw [if_neg b3] at h
     exact absurd h (by simp)

end Go.Proofs.Ytjfhbmbiegccnaa.QFnStack
