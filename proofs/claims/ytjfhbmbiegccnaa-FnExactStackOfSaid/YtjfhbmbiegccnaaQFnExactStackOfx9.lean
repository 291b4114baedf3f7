/- Walks of the functions that the law reaches, a contract for each (written by a program, after the kit's print, with the functions whose contracts are proved by hand). No conditions but those typed. -/
import Derived.Test.YtjfhbmbiegccnaaQFnExactStackOfx0
import Derived.Test.YtjfhbmbiegccnaaQFnExactStackOfx6
import Derived.Test.YtjfhbmbiegccnaaQFnExactStackOfx8
namespace Go.Proofs.Ytjfhbmbiegccnaa.QFnExactStackOf
open Go.RowKit Go.Proofs.YtjfhbmbiegccnaaW.PrintWords Go.Proofs.YtjfhbmbiegccnaaW.PrintLast Go.Proofs.YtjfhbmbiegccnaaW.PrintMore
attribute [local go_sem] max2_int min2_int max_two min_two max_three min_three max_four min_four   -- for this text's walks alone
set_option linter.unusedVariables false
set_option linter.unusedSimpArgs false

/-! ### spec_StackOf: function 67 -/
def spec_StackOf.l0 : Nat → List (List Int) → Int → Int → List Int → List (List Int) → Option (List Int × (List (List Int)) × Bool)
 | 0, _, _, _, _, _ => none
 | k + 1, x10, x11, x12, x350000, x350001 => if x12 < x11 then (if 0 ≤ x12 then (if x12 < (x10.length : Int) then ((spec_LeafHash.f k (rd_L2 x10 x12)).bind fun t351 => ((spec_StackPush.f k x350000 x350001 t351).bind fun bt354 => (if bt354.2.2 = true then (spec_StackOf.l0 k x10 x11 (wrap64 (x12 + 1)) bt354.1 bt354.2.1) else (some (([] : List Int), ([] : List (List Int)), false))))) else (none)) else (none)) else (some (x350000, x350001, true))
def spec_StackOf.f (k : Nat) (l0 : List (List Int)) : Option (List Int × (List (List Int)) × Bool) := spec_StackOf.l0 k l0 (l0.length : Int) 0 ([] : List Int) ([] : List (List Int))
theorem spec_StackOf.mono_l : ∀ k, (∀ y0 y1 y2 y3 y4, LeO (spec_StackOf.l0 k y0 y1 y2 y3 y4) (spec_StackOf.l0 (k + 1) y0 y1 y2 y3 y4))
 | 0 => fun _ _ _ _ _ r h => by simp [spec_StackOf.l0] at h
 | k + 1 => by
  have ih0 := spec_StackOf.mono_l k
  ·
   intro y0 y1 y2 y3 y4
   unfold spec_StackOf.l0
   repeat' first
   | (with_reducible exact ih0 _ _ _ _ _)
   | (with_reducible exact spec_LeafHash.mono _ _)
   | (with_reducible exact spec_StackPush.mono _ _ _ _)
   | (with_reducible exact LeO.refl _)
   | (with_reducible exact LeO.none _)
   | (with_reducible refine LeO.ite ?_ ?_)
   | (with_reducible refine LeO.bind ?_ (fun _ => ?_))
   | exact ih0 _ _ _ _ _
   | exact spec_LeafHash.mono _ _
   | exact spec_StackPush.mono _ _ _ _
   | exact LeO.none _
   | refine LeO.ite ?_ ?_
   | refine LeO.bind ?_ (fun _ => ?_)
theorem spec_StackOf.mono : ∀ a0 k, LeO (spec_StackOf.f k a0) (spec_StackOf.f (k + 1) a0) := by
 intro a0 k
 have ih0 := spec_StackOf.mono_l k
 unfold spec_StackOf.f
 repeat' first
   | (with_reducible exact ih0 _ _ _ _ _)
   | (with_reducible exact spec_LeafHash.mono _ _)
   | (with_reducible exact spec_StackPush.mono _ _ _ _)
   | (with_reducible exact LeO.refl _)
   | (with_reducible exact LeO.none _)
   | (with_reducible refine LeO.ite ?_ ?_)
   | (with_reducible refine LeO.bind ?_ (fun _ => ?_))
   | exact ih0 _ _ _ _ _
   | exact spec_LeafHash.mono _ _
   | exact spec_StackPush.mono _ _ _ _
   | exact LeO.none _
   | refine LeO.ite ?_ ?_
   | refine LeO.bind ?_ (fun _ => ?_)
def spec_StackOf.T5 : Bool × List (List Nat × List Nat) := (true, [([], []), ([], []), ([1], [1]), ([0, 2, 2], [0, 2]), ([3], [3]), ([4], [4]), ([4], [4]), ([], []), ([7, 5, 3, 0, 1, 2, 3, 4, 5, 7], [5, 7]), ([6, 8, 0, 1, 2, 3, 4, 5, 6, 7, 8], [6])])
def spec_StackOf.B5 : List Nat := [0, 0, 2, 7, 15, 31, 31, 0, 191, 511]
theorem spec_StackOf.tab5 : rtab .any (opsOf Try.f67 5) = spec_StackOf.T5 := by kernel_rfl
theorem spec_StackOf.bits5 : waitsOk spec_StackOf.T5.2 spec_StackOf.B5 = true := by kernel_rfl
set_option maxHeartbeats 8000000 in
set_option maxRecDepth 100000 in
theorem spec_StackOf.calls (k : Nat) (A0 : Option Addr) (c0 : Nat) (l0 : List (List Int)) (r1 : List Int) (r2 : List (List Int)) (r3 : Bool) (w : World) (hr0 : Kd.C (Kd.slice 5 (Kd.int .u8)) w A0 l0.length l0) (hc0 : l0.length ≤ c0) (h : spec_StackOf.f k l0 = some (r1, r2, r3)) :
  Calls Try.prog 67 #[.slice A0 l0.length c0] w fun e w' => ∃ v0_ v1_ : Value, e = .returned (.tuple #[.agg #[v0_, v1_], .bool r3]) ∧ Kd.R (Kd.int .i64) 3 w' w.heap.size (fun _ => True) v0_ r1 ∧ Kd.S (Kd.slice 5 (Kd.int .u8)) 23 w' w.heap.size (fun _ => True) v1_ r2 ∧ Below w.heap.size w w' := by
 have hu50 := Try.underlying50
 have HR0 := Aside0.mk hr0
 have HC0 := Aside0.mk hc0
 clear hr0 hc0
 have HB := Aside0.mk (Below.refl w.heap.size w)
 have H : (spec_StackOf.l0 k l0 (l0.length : Int) 0 ([] : List Int) ([] : List (List Int))) = some (r1, r2, r3) := h
 clear h
 have H' := Aside0.mk H
 clear H
 go_enter Try.func67, Try.ntmps67
 go_wp2_with (first | ((with_reducible refine gate_dst (N := 2) rfl ?_); refine box_event ?hg (N := 2) ?hd (cs := #[.slice none 0 0, .slice none 0 0]) (t := 50) ?hr ?_; (case hd => rfl); (case hg => rfl); (case hr => first | (go_simp; done) | (go_simp; rfl)); intro gb348 hg w2 hbox hb; have n0_ := Aside0.mk (below_step (hbA HB) hb); have n1_ := Aside0.mk (hbox); have n2_ := Aside0.mk ((by rw [hg]; exact (below_size (hbA HB)) : w.heap.size ≤ gb348)); have n3_ := Aside0.mk ((by rw [hg]; exact (below_size (hbA HB)) : w.heap.size ≤ gb348)); clear HB; have HB := n0_; have BK348 := n1_; have GW348 := n2_; have GE348 := n3_; clear n0_ n1_ n2_ n3_; clear hb hbox hg) | ((with_reducible refine gate_dst (N := 4) rfl ?_); refine box_event ?hg (N := 4) ?hd (cs := #[.slice none 0 0, .slice none 0 0]) (t := 50) ?hr ?_; (case hd => rfl); (case hg => rfl); (case hr => first | (go_simp; done) | (go_simp; rfl)); intro gb349 hg w3 hbox hb; have n0_ := Aside0.mk (blk_below (g := gb348) (o := .cells #[.slice none 0 0, .slice none 0 0] 50 (0, 0)) (bkA BK348.out) hb); have n1_ := Aside0.mk (below_step (hbA HB) hb); have n2_ := Aside0.mk (hbox); have n3_ := Aside0.mk ((by rw [hg]; exact (below_size (hbA HB)) : w.heap.size ≤ gb349)); have n4_ := Aside0.mk ((by rw [hg]; exact (below_size (hbA HB)) : w.heap.size ≤ gb349)); have n5_ := Aside0.mk ((by rw [hg]; exact Nat.ne_of_lt (blk_lt (g := gb348) (o := .cells #[.slice none 0 0, .slice none 0 0] 50 (0, 0)) (bkA BK348.out)) : gb348 ≠ gb349)); have n6_ := Aside0.mk ((by rw [hg]; exact Nat.ne_of_gt (blk_lt (g := gb348) (o := .cells #[.slice none 0 0, .slice none 0 0] 50 (0, 0)) (bkA BK348.out)) : gb349 ≠ gb348)); clear BK348; clear HB; have BK348 := n0_; have HB := n1_; have BK349 := n2_; have GW349 := n3_; have GE349 := n4_; have NB348_349 := n5_; have NB349_348 := n6_; clear n0_ n1_ n2_ n3_ n4_ n5_ n6_; clear hb hbox hg; have hnb4 := NB349_348.out; have hnc4 := NB348_349.out; have hcz5_0 : w3.cell? ⟨gb349, 0, none⟩ = some (.slice none 0 0) := (blk_cell BK349.out 0).trans rfl; have hcz5_1 : w3.cell? ⟨gb349, 1, none⟩ = some (.slice none 0 0) := (blk_cell BK349.out 1).trans rfl; have hfz5_0 := blk_frozen BK349.out 0; have hfz5_1 := blk_frozen BK349.out 1))
 go_loopg [12] k (fun kq v12 w' => ∃ (x12_1 : Int) (x350000_1 : List Int) (x350001_1 : List (List Int)) (u350000 : Value) (u350001 : Value), v12 = .int .i64 x12_1 ∧ Aside0 (spec_StackOf.l0 kq l0 (l0.length : Int) x12_1 x350000_1 x350001_1 = some (r1, r2, r3)) ∧ Aside0 (kq ≤ k) ∧ Aside0 (Kd.R (Kd.int .i64) 3 w' w.heap.size (fun _ => True) u350000 x350000_1) ∧ Aside0 (Kd.S (Kd.slice 5 (Kd.int .u8)) 23 w' w.heap.size (fun _ => True) u350001 x350001_1) ∧ Aside0 (w'.heap[gb348]? = some (.cells #[(.slice none 0 0), (.slice none 0 0)] 50 (0, 0))) ∧ Aside0 (w'.heap[gb349]? = some (.cells #[u350000, u350001] 50 (0, 0))) ∧ Aside0 (Below w.heap.size w w'))
 case atStart => exact ⟨(0), (([] : List Int)), (([] : List (List Int))), (.slice none 0 0), (.slice none 0 0), eA, H', ⟨Nat.le_refl _⟩, ⟨by first | exact Kd.R_nil _ _ _ _ _ | exact Kd.N_nil _ _ _ _ _ | exact Kd.V_nil _ _ _ _ _ | exact Kd.Q_nil _ _ _ _ _ | exact Kd.S_nil _ _ _ _ _⟩, ⟨by first | exact Kd.S_nil _ _ _ _ _ | exact Kd.N_nil _ _ _ _ _ | exact Kd.V_nil _ _ _ _ _ | exact Kd.Q_nil _ _ _ _ _ | exact Kd.R_nil _ _ _ _ _⟩, ⟨by (with_reducible repeat (first | refine blk_drewN ?_ _ | refine blk_drew ?_ | refine blk_alloc ?_ _)); refine blk_far ?_ NB348_349.out _; (with_reducible repeat (first | refine blk_drewN ?_ _ | refine blk_drew ?_ | refine blk_alloc ?_ _)); refine blk_far ?_ NB348_349.out _; (with_reducible repeat (first | refine blk_drewN ?_ _ | refine blk_drew ?_ | refine blk_alloc ?_ _)); exact BK348.out⟩, ⟨by (with_reducible repeat (first | refine blk_drewN ?_ _ | refine blk_drew ?_ | refine blk_alloc ?_ _)); refine blk_put (cs := #[.slice none 0 0, .slice none 0 0]) ?_ 1 _ rfl; (with_reducible repeat (first | refine blk_drewN ?_ _ | refine blk_drew ?_ | refine blk_alloc ?_ _)); refine blk_put (cs := #[.slice none 0 0, .slice none 0 0]) ?_ 0 _ rfl; (with_reducible repeat (first | refine blk_drewN ?_ _ | refine blk_drew ?_ | refine blk_alloc ?_ _)); exact BK349.out⟩, ⟨hbA HB⟩⟩
 case round =>
  clear H'
  try clear p2
  try clear c4
  try clear hcz5_0
  try clear hcz5_1
  try clear hfz5_0
  try clear hfz5_1
  obtain ⟨x12_1, x350000_1, x350001_1, u350000, u350001, rfl, HA, HK1, HO_350000, HO_350001, BK348, BK349, HB⟩ := hrel
  cases gk with
  | zero => exact absurd HA.out (by simp [spec_StackOf.l0])
  | succ k1 =>
   have H := HA.out
   clear HA
   simp only [spec_StackOf.l0] at H
   by_cases c6 : x12_1 < (l0.length : Int)
   ·
    rw [if_pos c6] at H
    have c6b0 : decide (x12_1 < (l0.length : Int)) = true := decide_eq_true c6
    clear c6
    by_cases c7 : 0 ≤ x12_1
    ·
     rw [if_pos c7] at H
     have c7b0 : decide (0 ≤ x12_1) = true := decide_eq_true c7
     clear c7
     by_cases c8 : x12_1 < (l0.length : Int)
     ·
      rw [if_pos c8] at H
      have c8b0 : decide (x12_1 < (l0.length : Int)) = true := decide_eq_true c8
      clear c8
      replace H := Option.bind_eq_some_iff.mp H
      obtain ⟨t351, A90, H⟩ := H
      replace H : ((spec_StackPush.f k1 x350000_1 x350001_1 t351).bind fun bt354 => (if bt354.2.2 = true then (spec_StackOf.l0 k1 l0 (l0.length : Int) (wrap64 (x12_1 + 1)) bt354.1 bt354.2.1) else (some (([] : List Int), ([] : List (List Int)), false)))) = some (r1, r2, r3) := H
      have A9 := Aside0.mk A90
      clear A90
      replace H := Option.bind_eq_some_iff.mp H
      obtain ⟨⟨t354, t357, t360⟩, A100, H⟩ := H
      replace H : (if t360 = true then (spec_StackOf.l0 k1 l0 (l0.length : Int) (wrap64 (x12_1 + 1)) t354 t357) else (some (([] : List Int), ([] : List (List Int)), false))) = some (r1, r2, r3) := H
      have A10 := Aside0.mk A100
      clear A100
      by_cases c11 : t360 = true
      ·
       subst c11
       have H1 : (spec_StackOf.l0 k1 l0 (l0.length : Int) (wrap64 (x12_1 + 1)) t354 t357) = some (r1, r2, r3) := by rw [if_pos rfl] at H; exact H
       clear H
       have H := H1
       clear H1
       have H' := Aside0.mk H
       clear H
       have p350 : 0 ≤ (x12_1 : Int) := of_decide_eq_true asA
       have q350 : x12_1 < (l0.length : Int) := of_decide_eq_true asA
       obtain ⟨ad350, A350_0, c350_0, e350, hx350_0, hl350_0, hi350_0⟩ := at_L2 HR0.out x12_1 p350 q350
       cases e350
       replace hx350_0 := (HB.out.cell (World.block_lt_of_cell? w _ hx350_0)).trans hx350_0
       have HR350_0 := Aside0.mk hi350_0
       have HC350_0 := Aside0.mk hl350_0
       clear hi350_0 hl350_0
       replace p350 := eq_true p350
       replace q350 := eq_true q350
       obtain ⟨Ao12, co12, eo12⟩ := Kd.R_slice HO_350000.out
       subst eo12
       obtain ⟨Ao13, co13, eo13⟩ := Kd.S_slice HO_350001.out
       subst eo13
       try go_wp2
       have n0_ := Aside0.mk (Kd.R_drew HO_350000.out)
       have n1_ := Aside0.mk (Kd.S_drew HO_350001.out)
       have n2_ := Aside0.mk (blk_drew BK348.out)
       have n3_ := Aside0.mk (blk_drew BK349.out)
       have n4_ := Aside0.mk (below_drew1 HB.out)
       clear HO_350000
       clear HO_350001
       clear BK348
       clear BK349
       clear HB
       have HO_350000 := n0_
       have HO_350001 := n1_
       have BK348 := n2_
       have BK349 := n3_
       have HB := n4_
       clear n0_ n1_ n2_ n3_ n4_
       refine start_ (n := 10) (S := fun w' => w'.cell? ⟨gb349, 0, none⟩ = some (.slice Ao12 x350000_1.length co12) ∧ w'.cell? ⟨gb349, 1, none⟩ = some (.slice Ao13 x350001_1.length co13)) (ds := []) #[false, false, false, false, false, false, false, false, false, false] (by kernel_rfl) rfl rfl ⟨(blk_cell BK349.out 0).trans rfl, (blk_cell BK349.out 1).trans rfl⟩ (fun hHeld => ?_); refine with_tabW spec_StackOf.tab5 spec_StackOf.bits5 (fun HT_ HW_ => ?_)
       generalize wr.drew = w14 at HO_350000 HO_350001 BK348 BK349 HB hHeld ⊢
       refine pure_ (i := 1) (N := some 18) (v := ?_) (a' := ?_) #[false, true, false, false, false, false, false, false, false, false] rfl rfl (any_of HT_.out (by kernel_rfl)) (fun _ _ _ h => h) (Or.inl ⟨by rfl, ?_⟩) ?_ ?_
       rotate_left
       ·
        intro w'
        go_simp
        with_reducible rfl
       rotate_left
       ·
        simp only [Act.put, List.setIfInBounds_toArray, List.set_cons_zero, List.set_cons_succ, i64_w, i32_w]
        rfl
       refine take_ (i := 0) (N := some 17) (v := ?_) (a' := ?_) #[true, true, false, false, false, false, false, false, false, false] rfl rfl (take_ofW HT_.out HW_.out (by kernel_rfl)) (fun _ _ _ h => h) (Or.inl ⟨by rfl, ?_⟩) hHeld ?_ ?_
       rotate_left
       ·
        rintro w' ⟨s0, s1⟩
        go_simp
        with_reducible rfl
       rotate_left
       ·
        simp only [Act.put, List.setIfInBounds_toArray, List.set_cons_zero, List.set_cons_succ, i64_w, i32_w]
        rfl
       refine join_ (σ := Value × Value × Value × Nat) 2 #[true, true, true, true, true, true, true, true, false, false] (fun s_ => [(19, s_.1), (20, .tuple #[.agg #[s_.2.1, s_.2.2.1], .bool true]), (7, .pointer (some ⟨s_.2.2.2, 0, none⟩)), (16, .tuple #[.agg #[s_.2.1, s_.2.2.1], .bool true]), (21, .agg #[s_.2.1, s_.2.2.1]), (22, .bool true)]) (fun s_ w' => (w'.cell? ⟨gb349, 0, none⟩ = some (.slice Ao12 x350000_1.length co12) ∧ w'.cell? ⟨gb349, 1, none⟩ = some (.slice Ao13 x350001_1.length co13)) ∧ (Kd.R (Kd.int .u8) 5 w' w.heap.size (fun _ => True) s_.1 t351) ∧ (Kd.R (Kd.int .i64) 3 w' w.heap.size (fun k_ => some k_ ≠ (.slice Ao12 x350000_1.length co12 : Value).ownBlock) s_.2.1 t354) ∧ (Kd.S (Kd.slice 5 (Kd.int .u8)) 23 w' w.heap.size (fun k_ => some k_ ≠ (s_.1 : Value).ownBlock ∧ some k_ ≠ (.slice Ao13 x350001_1.length co13 : Value).ownBlock) s_.2.2.1 t357) ∧ (Kd.R (Kd.int .i64) 3 w' w.heap.size (fun k_ => some k_ ≠ (s_.2.1 : Value).ownBlock) (.slice Ao12 x350000_1.length co12) x350000_1) ∧ (Kd.S (Kd.slice 5 (Kd.int .u8)) 23 w' w.heap.size (fun k_ => some k_ ≠ (s_.1 : Value).ownBlock ∧ some k_ ≠ (s_.2.2.1 : Value).ownBlock) (.slice Ao13 x350001_1.length co13) x350001_1) ∧ (w'.heap[gb348]? = some (.cells #[.slice none 0 0, .slice none 0 0] 50 (0, 0))) ∧ (w'.heap[gb349]? = some (.cells #[.slice Ao12 x350000_1.length co12, .slice Ao13 x350001_1.length co13] 50 (0, 0))) ∧ (w'.heap[s_.2.2.2]? = some (.cells #[.slice none 0 0, .slice none 0 0] 50 (0, 0))) ∧ (w.heap.size ≤ s_.2.2.2) ∧ (w.heap.size ≤ s_.2.2.2) ∧ (gb348 ≠ s_.2.2.2) ∧ (s_.2.2.2 ≠ gb348) ∧ (gb349 ≠ s_.2.2.2) ∧ (s_.2.2.2 ≠ gb349) ∧ (Below w.heap.size w w')) ?_ ?_
       rotate_left
       ·
        intro hCont
        refine two_ (i := 2) (j := 7) (Ni := some 19) (Nj := some 7) #[true, true, true, false, false, false, false, false, false, false] #[true, true, false, false, false, false, false, true, false, false] rfl rfl rfl rfl (two_of HT_.out (by kernel_rfl)) (by decide) (by decide) (fun K hK => ?_) (fun K hK => ?_)
        ·
         skip
         refine goes_ Try.func30 (by kernel_rfl) rfl #[.slice A350_0 (rd_L2 l0 x12_1).length c350_0] (by rfl) rfl rfl mtA ?_
         with_reducible refine (spec_LeafHash.calls k1 _ _ (rd_L2 l0 x12_1) t351 _ ?side1 ?side2 A9.out).mono ?_
         (case side1 => exact cA (Kd.C_below HR350_0.out HB.out))
         (case side2 => exact HC350_0.out)
         rintro e w15 ⟨v352, rfl, ho0, hb⟩
         refine ⟨_, rfl, ?_⟩
         have n0_ := Aside0.mk (Kd.R_below (rA HO_350000.out) hb)
         have n1_ := Aside0.mk (Kd.S_elder' (sA HO_350001.out) (Kd.R_base ho0) hb)
         have n2_ := Aside0.mk (Kd.R_lower ho0 (below_size (hbA HB)))
         have n3_ := Aside0.mk (blk_below (g := gb348) (o := .cells #[.slice none 0 0, .slice none 0 0] 50 (0, 0)) (bkA BK348.out) hb)
         have n4_ := Aside0.mk (blk_below (g := gb349) (o := .cells #[.slice Ao12 x350000_1.length co12, .slice Ao13 x350001_1.length co13] 50 (0, 0)) (bkA BK349.out) hb)
         have n5_ := Aside0.mk (below_step (hbA HB) hb)
         clear HO_350000
         clear HO_350001
         clear BK348
         clear BK349
         clear HB
         have HO_350000 := n0_
         have HO_350001 := n1_
         have HO353 := n2_
         have BK348 := n3_
         have BK349 := n4_
         have HB := n5_
         clear n0_ n1_ n2_ n3_ n4_ n5_
         (try clear hb)
         (try clear hb2)
         (try clear hk)
         (try clear hi)
         (try clear ho0)
         obtain ⟨Ao16, co16, eo16⟩ := Kd.R_slice HO353.out
         (first | subst eo16 | (injection eo16 with f1_ f2_ f3_; have f4_ := f1_.symm; have f5_ := f3_.symm; clear f1_ f2_ f3_; subst f4_; subst f5_))
         refine hK.out _ _ ⟨(blk_cell BK349.out 0).trans rfl, (blk_cell BK349.out 1).trans rfl⟩ (fun hHeld => ?_)
         clear hK K
         refine norm_ (a' := ?_) ?_ ?_
         rotate_left
         ·
          show Act.put _ (some 19) _ = _
          simp only [Act.put, List.setIfInBounds_toArray, List.set_cons_zero, List.set_cons_succ, i64_w, i32_w]
          rfl
         refine two_ (i := 3) (j := 7) (Ni := some 20) (Nj := some 7) #[true, true, true, true, false, false, false, false, false, false] #[true, true, true, false, false, false, false, true, false, false] rfl rfl rfl rfl (two_of HT_.out (by kernel_rfl)) (by decide) (by decide) (fun K hK => ?_) (fun K hK => ?_)
         ·
          skip
          refine goes_ Try.func69 (by kernel_rfl) rfl #[.agg #[.slice Ao12 x350000_1.length co12, .slice Ao13 x350001_1.length co13], .slice Ao16 t351.length co16] (by rfl) rfl rfl mtA ?_
          with_reducible refine (spec_StackPush.calls k1 _ _ x350000_1 _ _ x350001_1 _ _ t351 t354 t357 true _ ?side1 ?side2 ?side3 ?side4 ?side5 ?side6 A10.out).mono ?_
          (case side1 => repeat (first | exact (Kd.R_reads' HO_350000.out).2.2 | (with_reducible refine Kd.C_alloc ?_ _) | (with_reducible refine Kd.C_drewN ?_ _) | (with_reducible refine Kd.C_drew ?_)))
          (case side2 => exact (Kd.R_reads' HO_350000.out).2.1)
          (case side3 => repeat (first | exact (Kd.S_reads' HO_350001.out).2.2 | (with_reducible refine Kd.C_alloc ?_ _) | (with_reducible refine Kd.C_drewN ?_ _) | (with_reducible refine Kd.C_drew ?_)))
          (case side4 => exact (Kd.S_reads' HO_350001.out).2.1)
          (case side5 => repeat (first | exact (Kd.R_reads' HO353.out).2.2 | (with_reducible refine Kd.C_alloc ?_ _) | (with_reducible refine Kd.C_drewN ?_ _) | (with_reducible refine Kd.C_drew ?_)))
          (case side6 => exact (Kd.R_reads' HO353.out).2.1)
          rintro e w17 ⟨v355, v358, rfl, ho0, ho1, hb⟩
          refine ⟨_, rfl, ?_⟩
          have n0_ := Aside0.mk (Kd.R_elder' (rA HO_350000.out) (Kd.R_base ho0) hb)
          have n1_ := Aside0.mk (Kd.S_elder' (sA HO_350001.out) (Kd.S_base ho1) hb)
          have n2_ := Aside0.mk (Kd.R_below (rA HO353.out) hb)
          have n3_ := Aside0.mk (Kd.R_lower (Kd.R_new' ho0 (Kd.R_lt (rA HO_350000.out))) (below_size (hbA HB)))
          have n4_ := Aside0.mk (Kd.S_lower (Kd.S_new' (Kd.S_new' ho1 (Kd.S_lt (sA HO_350001.out))) (Kd.R_lt (rA HO353.out))) (below_size (hbA HB)))
          have n5_ := Aside0.mk (blk_below (g := gb348) (o := .cells #[.slice none 0 0, .slice none 0 0] 50 (0, 0)) (bkA BK348.out) hb)
          have n6_ := Aside0.mk (blk_below (g := gb349) (o := .cells #[.slice Ao12 x350000_1.length co12, .slice Ao13 x350001_1.length co13] 50 (0, 0)) (bkA BK349.out) hb)
          have n7_ := Aside0.mk (below_step (hbA HB) hb)
          clear HO_350000
          clear HO_350001
          clear HO353
          clear BK348
          clear BK349
          clear HB
          have HO_350000 := n0_
          have HO_350001 := n1_
          have HO353 := n2_
          have HO356 := n3_
          have HO359 := n4_
          have BK348 := n5_
          have BK349 := n6_
          have HB := n7_
          clear n0_ n1_ n2_ n3_ n4_ n5_ n6_ n7_
          (try clear hb)
          (try clear hb2)
          (try clear hk)
          (try clear hi)
          (try clear ho0)
          (try clear ho1)
          refine hK.out _ _ ⟨(blk_cell BK349.out 0).trans rfl, (blk_cell BK349.out 1).trans rfl⟩ (fun hHeld => ?_)
          clear hK K
          refine norm_ (a' := ?_) ?_ ?_
          rotate_left
          ·
           show Act.put _ (some 20) _ = _
           simp only [Act.put, List.setIfInBounds_toArray, List.set_cons_zero, List.set_cons_succ, i64_w, i32_w]
           rfl
          refine pure_ (i := 4) (N := some 16) (v := ?_) (a' := ?_) #[true, true, true, true, true, false, false, false, false, false] rfl rfl (any_of HT_.out (by kernel_rfl)) (fun _ _ _ h => h) (Or.inl ⟨by rfl, ?_⟩) ?_ ?_
          rotate_left
          ·
           intro w'
           go_simp
           with_reducible rfl
          rotate_left
          ·
           simp only [Act.put, List.setIfInBounds_toArray, List.set_cons_zero, List.set_cons_succ, i64_w, i32_w]
           rfl
          refine pure_ (i := 5) (N := some 21) (v := ?_) (a' := ?_) #[true, true, true, true, true, true, false, false, false, false] rfl rfl (any_of HT_.out (by kernel_rfl)) (fun _ _ _ h => h) (Or.inl ⟨by rfl, ?_⟩) ?_ ?_
          rotate_left
          ·
           intro w'
           go_simp
           with_reducible rfl
          rotate_left
          ·
           simp only [Act.put, List.setIfInBounds_toArray, List.set_cons_zero, List.set_cons_succ, i64_w, i32_w]
           rfl
          refine pure_ (i := 6) (N := some 22) (v := ?_) (a' := ?_) #[true, true, true, true, true, true, true, false, false, false] rfl rfl (any_of HT_.out (by kernel_rfl)) (fun _ _ _ h => h) (Or.inl ⟨by rfl, ?_⟩) ?_ ?_
          rotate_left
          ·
           intro w'
           go_simp
           with_reducible rfl
          rotate_left
          ·
           simp only [Act.put, List.setIfInBounds_toArray, List.set_cons_zero, List.set_cons_succ, i64_w, i32_w]
           rfl
          refine one_ (i := 7) (N := some 7) #[true, true, true, true, true, true, true, true, false, false] rfl rfl (one_of HT_.out (by kernel_rfl)) (by decide) (fun K hK => ?_)
          refine box_step ?hg (N := 7) ?hd (cs := #[.slice none 0 0, .slice none 0 0]) (t := 50) ?hr ?_; (case hd => rfl); (case hg => rfl); (case hr => first | (go_simp; done) | (go_simp; rfl))
          intro gb361 hg w18 hbox hb
          have n0_ := Aside0.mk (Kd.R_below (rA HO_350000.out) hb)
          have n1_ := Aside0.mk (Kd.S_below (sA HO_350001.out) hb)
          have n2_ := Aside0.mk (Kd.R_below (rA HO353.out) hb)
          have n3_ := Aside0.mk (Kd.R_below (rA HO356.out) hb)
          have n4_ := Aside0.mk (Kd.S_below (sA HO359.out) hb)
          have n5_ := Aside0.mk (blk_below (g := gb348) (o := .cells #[.slice none 0 0, .slice none 0 0] 50 (0, 0)) (bkA BK348.out) hb)
          have n6_ := Aside0.mk (blk_below (g := gb349) (o := .cells #[.slice Ao12 x350000_1.length co12, .slice Ao13 x350001_1.length co13] 50 (0, 0)) (bkA BK349.out) hb)
          have n7_ := Aside0.mk (below_step (hbA HB) hb)
          have n8_ := Aside0.mk (hbox)
          have n9_ := Aside0.mk ((by rw [hg]; exact (below_size (hbA HB)) : w.heap.size ≤ gb361))
          have n10_ := Aside0.mk ((by rw [hg]; exact (below_size (hbA HB)) : w.heap.size ≤ gb361))
          have n11_ := Aside0.mk ((by rw [hg]; exact Nat.ne_of_lt (blk_lt (g := gb348) (o := .cells #[.slice none 0 0, .slice none 0 0] 50 (0, 0)) (bkA BK348.out)) : gb348 ≠ gb361))
          have n12_ := Aside0.mk ((by rw [hg]; exact Nat.ne_of_gt (blk_lt (g := gb348) (o := .cells #[.slice none 0 0, .slice none 0 0] 50 (0, 0)) (bkA BK348.out)) : gb361 ≠ gb348))
          have n13_ := Aside0.mk ((by rw [hg]; exact Nat.ne_of_lt (blk_lt (g := gb349) (o := .cells #[.slice Ao12 x350000_1.length co12, .slice Ao13 x350001_1.length co13] 50 (0, 0)) (bkA BK349.out)) : gb349 ≠ gb361))
          have n14_ := Aside0.mk ((by rw [hg]; exact Nat.ne_of_gt (blk_lt (g := gb349) (o := .cells #[.slice Ao12 x350000_1.length co12, .slice Ao13 x350001_1.length co13] 50 (0, 0)) (bkA BK349.out)) : gb361 ≠ gb349))
          clear HO_350000
          clear HO_350001
          clear HO353
          clear HO356
          clear HO359
          clear BK348
          clear BK349
          clear HB
          have HO_350000 := n0_
          have HO_350001 := n1_
          have HO353 := n2_
          have HO356 := n3_
          have HO359 := n4_
          have BK348 := n5_
          have BK349 := n6_
          have HB := n7_
          have BK361 := n8_
          have GW361 := n9_
          have GE361 := n10_
          have NB348_361 := n11_
          have NB361_348 := n12_
          have NB349_361 := n13_
          have NB361_349 := n14_
          clear n0_ n1_ n2_ n3_ n4_ n5_ n6_ n7_ n8_ n9_ n10_ n11_ n12_ n13_ n14_
          clear hb hbox hg
          refine hK.out _ _ ⟨(blk_cell BK349.out 0).trans rfl, (blk_cell BK349.out 1).trans rfl⟩ (fun hHeld => ?_)
          clear hK K
          refine norm_ (a' := ?_) ?_ ?_
          rotate_left
          ·
           show Act.put _ (some 7) _ = _
           simp only [Act.put, List.setIfInBounds_toArray, List.set_cons_zero, List.set_cons_succ, i64_w, i32_w]
           rfl
          exact norm_ (by simp only [putAll, Act.put, List.setIfInBounds_toArray, List.set_cons_zero, List.set_cons_succ]) (hCont (.slice Ao16 t351.length co16, v355, v358, gb361) _ ⟨hHeld, (rA HO353.out), (by (with_reducible repeat (first | apply Kd.R_alloc | apply Kd.R_drewN | apply Kd.R_drew)); exact Kd.R_mono HO356.out (fun _ hk => hk.2)), (by (with_reducible repeat (first | apply Kd.S_alloc | apply Kd.S_drewN | apply Kd.S_drew)); exact Kd.S_mono HO359.out (fun _ hk => ⟨hk.2, hk.1.2⟩)), (by (with_reducible repeat (first | apply Kd.R_alloc | apply Kd.R_drewN | apply Kd.R_drew)); exact Kd.R_mono HO_350000.out (fun _ hk => hk.2)), (by (with_reducible repeat (first | apply Kd.S_alloc | apply Kd.S_drewN | apply Kd.S_drew)); exact Kd.S_mono HO_350001.out (fun _ hk => ⟨hk.1.2, hk.2⟩)), (bkA BK348.out), (bkA BK349.out), (bkA BK361.out), GW361.out, GE361.out, NB348_361.out, NB361_348.out, NB349_361.out, NB361_349.out, (hbA HB)⟩)
         ·
          skip
          refine box_step ?hg (N := 7) ?hd (cs := #[.slice none 0 0, .slice none 0 0]) (t := 50) ?hr ?_; (case hd => rfl); (case hg => rfl); (case hr => first | (go_simp; done) | (go_simp; rfl))
          intro gb361 hg w16 hbox hb
          have n0_ := Aside0.mk (Kd.R_below (rA HO_350000.out) hb)
          have n1_ := Aside0.mk (Kd.S_below (sA HO_350001.out) hb)
          have n2_ := Aside0.mk (Kd.R_below (rA HO353.out) hb)
          have n3_ := Aside0.mk (blk_below (g := gb348) (o := .cells #[.slice none 0 0, .slice none 0 0] 50 (0, 0)) (bkA BK348.out) hb)
          have n4_ := Aside0.mk (blk_below (g := gb349) (o := .cells #[.slice Ao12 x350000_1.length co12, .slice Ao13 x350001_1.length co13] 50 (0, 0)) (bkA BK349.out) hb)
          have n5_ := Aside0.mk (below_step (hbA HB) hb)
          have n6_ := Aside0.mk (hbox)
          have n7_ := Aside0.mk ((by rw [hg]; exact (below_size (hbA HB)) : w.heap.size ≤ gb361))
          have n8_ := Aside0.mk ((by rw [hg]; exact (below_size (hbA HB)) : w.heap.size ≤ gb361))
          have n9_ := Aside0.mk ((by rw [hg]; exact Nat.ne_of_lt (blk_lt (g := gb348) (o := .cells #[.slice none 0 0, .slice none 0 0] 50 (0, 0)) (bkA BK348.out)) : gb348 ≠ gb361))
          have n10_ := Aside0.mk ((by rw [hg]; exact Nat.ne_of_gt (blk_lt (g := gb348) (o := .cells #[.slice none 0 0, .slice none 0 0] 50 (0, 0)) (bkA BK348.out)) : gb361 ≠ gb348))
          have n11_ := Aside0.mk ((by rw [hg]; exact Nat.ne_of_lt (blk_lt (g := gb349) (o := .cells #[.slice Ao12 x350000_1.length co12, .slice Ao13 x350001_1.length co13] 50 (0, 0)) (bkA BK349.out)) : gb349 ≠ gb361))
          have n12_ := Aside0.mk ((by rw [hg]; exact Nat.ne_of_gt (blk_lt (g := gb349) (o := .cells #[.slice Ao12 x350000_1.length co12, .slice Ao13 x350001_1.length co13] 50 (0, 0)) (bkA BK349.out)) : gb361 ≠ gb349))
          clear HO_350000
          clear HO_350001
          clear HO353
          clear BK348
          clear BK349
          clear HB
          have HO_350000 := n0_
          have HO_350001 := n1_
          have HO353 := n2_
          have BK348 := n3_
          have BK349 := n4_
          have HB := n5_
          have BK361 := n6_
          have GW361 := n7_
          have GE361 := n8_
          have NB348_361 := n9_
          have NB361_348 := n10_
          have NB349_361 := n11_
          have NB361_349 := n12_
          clear n0_ n1_ n2_ n3_ n4_ n5_ n6_ n7_ n8_ n9_ n10_ n11_ n12_
          clear hb hbox hg
          obtain ⟨Ao17, co17, eo17⟩ := Kd.R_slice HO353.out
          (first | subst eo17 | (injection eo17 with f1_ f2_ f3_; have f4_ := f1_.symm; have f5_ := f3_.symm; clear f1_ f2_ f3_; subst f4_; subst f5_))
          refine hK.out _ _ ⟨(blk_cell BK349.out 0).trans rfl, (blk_cell BK349.out 1).trans rfl⟩ (fun hHeld => ?_)
          clear hK K
          refine norm_ (a' := ?_) ?_ ?_
          rotate_left
          ·
           show Act.put _ (some 7) _ = _
           simp only [Act.put, List.setIfInBounds_toArray, List.set_cons_zero, List.set_cons_succ, i64_w, i32_w]
           rfl
          refine one_ (i := 3) (N := some 20) #[true, true, true, true, false, false, false, true, false, false] rfl rfl (one_of HT_.out (by kernel_rfl)) (by decide) (fun K hK => ?_)
          refine goes_ Try.func69 (by kernel_rfl) rfl #[.agg #[.slice Ao12 x350000_1.length co12, .slice Ao13 x350001_1.length co13], .slice Ao17 t351.length co17] (by rfl) rfl rfl mtA ?_
          with_reducible refine (spec_StackPush.calls k1 _ _ x350000_1 _ _ x350001_1 _ _ t351 t354 t357 true _ ?side1 ?side2 ?side3 ?side4 ?side5 ?side6 A10.out).mono ?_
          (case side1 => repeat (first | exact (Kd.R_reads' HO_350000.out).2.2 | (with_reducible refine Kd.C_alloc ?_ _) | (with_reducible refine Kd.C_drewN ?_ _) | (with_reducible refine Kd.C_drew ?_)))
          (case side2 => exact (Kd.R_reads' HO_350000.out).2.1)
          (case side3 => repeat (first | exact (Kd.S_reads' HO_350001.out).2.2 | (with_reducible refine Kd.C_alloc ?_ _) | (with_reducible refine Kd.C_drewN ?_ _) | (with_reducible refine Kd.C_drew ?_)))
          (case side4 => exact (Kd.S_reads' HO_350001.out).2.1)
          (case side5 => repeat (first | exact (Kd.R_reads' HO353.out).2.2 | (with_reducible refine Kd.C_alloc ?_ _) | (with_reducible refine Kd.C_drewN ?_ _) | (with_reducible refine Kd.C_drew ?_)))
          (case side6 => exact (Kd.R_reads' HO353.out).2.1)
          rintro e w18 ⟨v355, v358, rfl, ho0, ho1, hb⟩
          refine ⟨_, rfl, ?_⟩
          have n0_ := Aside0.mk (Kd.R_elder' (rA HO_350000.out) (Kd.R_base ho0) hb)
          have n1_ := Aside0.mk (Kd.S_elder' (sA HO_350001.out) (Kd.S_base ho1) hb)
          have n2_ := Aside0.mk (Kd.R_below (rA HO353.out) hb)
          have n3_ := Aside0.mk (Kd.R_lower (Kd.R_new' ho0 (Kd.R_lt (rA HO_350000.out))) (below_size (hbA HB)))
          have n4_ := Aside0.mk (Kd.S_lower (Kd.S_new' (Kd.S_new' ho1 (Kd.S_lt (sA HO_350001.out))) (Kd.R_lt (rA HO353.out))) (below_size (hbA HB)))
          have n5_ := Aside0.mk (blk_below (g := gb348) (o := .cells #[.slice none 0 0, .slice none 0 0] 50 (0, 0)) (bkA BK348.out) hb)
          have n6_ := Aside0.mk (blk_below (g := gb349) (o := .cells #[.slice Ao12 x350000_1.length co12, .slice Ao13 x350001_1.length co13] 50 (0, 0)) (bkA BK349.out) hb)
          have n7_ := Aside0.mk (blk_below (g := gb361) (o := .cells #[.slice none 0 0, .slice none 0 0] 50 (0, 0)) (bkA BK361.out) hb)
          have n8_ := Aside0.mk (below_step (hbA HB) hb)
          clear HO_350000
          clear HO_350001
          clear HO353
          clear BK348
          clear BK349
          clear BK361
          clear HB
          have HO_350000 := n0_
          have HO_350001 := n1_
          have HO353 := n2_
          have HO356 := n3_
          have HO359 := n4_
          have BK348 := n5_
          have BK349 := n6_
          have BK361 := n7_
          have HB := n8_
          clear n0_ n1_ n2_ n3_ n4_ n5_ n6_ n7_ n8_
          (try clear hb)
          (try clear hb2)
          (try clear hk)
          (try clear hi)
          (try clear ho0)
          (try clear ho1)
          refine hK.out _ _ ⟨(blk_cell BK349.out 0).trans rfl, (blk_cell BK349.out 1).trans rfl⟩ (fun hHeld => ?_)
          clear hK K
          refine norm_ (a' := ?_) ?_ ?_
          rotate_left
          ·
           show Act.put _ (some 20) _ = _
           simp only [Act.put, List.setIfInBounds_toArray, List.set_cons_zero, List.set_cons_succ, i64_w, i32_w]
           rfl
          refine pure_ (i := 4) (N := some 16) (v := ?_) (a' := ?_) #[true, true, true, true, true, false, false, true, false, false] rfl rfl (any_of HT_.out (by kernel_rfl)) (fun _ _ _ h => h) (Or.inl ⟨by rfl, ?_⟩) ?_ ?_
          rotate_left
          ·
           intro w'
           go_simp
           with_reducible rfl
          rotate_left
          ·
           simp only [Act.put, List.setIfInBounds_toArray, List.set_cons_zero, List.set_cons_succ, i64_w, i32_w]
           rfl
          refine pure_ (i := 5) (N := some 21) (v := ?_) (a' := ?_) #[true, true, true, true, true, true, false, true, false, false] rfl rfl (any_of HT_.out (by kernel_rfl)) (fun _ _ _ h => h) (Or.inl ⟨by rfl, ?_⟩) ?_ ?_
          rotate_left
          ·
           intro w'
           go_simp
           with_reducible rfl
          rotate_left
          ·
           simp only [Act.put, List.setIfInBounds_toArray, List.set_cons_zero, List.set_cons_succ, i64_w, i32_w]
           rfl
          refine pure_ (i := 6) (N := some 22) (v := ?_) (a' := ?_) #[true, true, true, true, true, true, true, true, false, false] rfl rfl (any_of HT_.out (by kernel_rfl)) (fun _ _ _ h => h) (Or.inl ⟨by rfl, ?_⟩) ?_ ?_
          rotate_left
          ·
           intro w'
           go_simp
           with_reducible rfl
          rotate_left
          ·
           simp only [Act.put, List.setIfInBounds_toArray, List.set_cons_zero, List.set_cons_succ, i64_w, i32_w]
           rfl
          exact norm_ (by simp only [putAll, Act.put, List.setIfInBounds_toArray, List.set_cons_zero, List.set_cons_succ]) (hCont (.slice Ao17 t351.length co17, v355, v358, gb361) _ ⟨hHeld, (rA HO353.out), (by (with_reducible repeat (first | apply Kd.R_alloc | apply Kd.R_drewN | apply Kd.R_drew)); exact Kd.R_mono HO356.out (fun _ hk => hk.2)), (by (with_reducible repeat (first | apply Kd.S_alloc | apply Kd.S_drewN | apply Kd.S_drew)); exact Kd.S_mono HO359.out (fun _ hk => ⟨hk.2, hk.1.2⟩)), (by (with_reducible repeat (first | apply Kd.R_alloc | apply Kd.R_drewN | apply Kd.R_drew)); exact Kd.R_mono HO_350000.out (fun _ hk => hk.2)), (by (with_reducible repeat (first | apply Kd.S_alloc | apply Kd.S_drewN | apply Kd.S_drew)); exact Kd.S_mono HO_350001.out (fun _ hk => ⟨hk.1.2, hk.2⟩)), (bkA BK348.out), (bkA BK349.out), (bkA BK361.out), GW361.out, GE361.out, NB348_361.out, NB361_348.out, NB349_361.out, NB361_349.out, (hbA HB)⟩)
        ·
         skip
         refine box_step ?hg (N := 7) ?hd (cs := #[.slice none 0 0, .slice none 0 0]) (t := 50) ?hr ?_; (case hd => rfl); (case hg => rfl); (case hr => first | (go_simp; done) | (go_simp; rfl))
         intro gb361 hg w15 hbox hb
         have n0_ := Aside0.mk (Kd.R_below (rA HO_350000.out) hb)
         have n1_ := Aside0.mk (Kd.S_below (sA HO_350001.out) hb)
         have n2_ := Aside0.mk (blk_below (g := gb348) (o := .cells #[.slice none 0 0, .slice none 0 0] 50 (0, 0)) (bkA BK348.out) hb)
         have n3_ := Aside0.mk (blk_below (g := gb349) (o := .cells #[.slice Ao12 x350000_1.length co12, .slice Ao13 x350001_1.length co13] 50 (0, 0)) (bkA BK349.out) hb)
         have n4_ := Aside0.mk (below_step (hbA HB) hb)
         have n5_ := Aside0.mk (hbox)
         have n6_ := Aside0.mk ((by rw [hg]; exact (below_size (hbA HB)) : w.heap.size ≤ gb361))
         have n7_ := Aside0.mk ((by rw [hg]; exact (below_size (hbA HB)) : w.heap.size ≤ gb361))
         have n8_ := Aside0.mk ((by rw [hg]; exact Nat.ne_of_lt (blk_lt (g := gb348) (o := .cells #[.slice none 0 0, .slice none 0 0] 50 (0, 0)) (bkA BK348.out)) : gb348 ≠ gb361))
         have n9_ := Aside0.mk ((by rw [hg]; exact Nat.ne_of_gt (blk_lt (g := gb348) (o := .cells #[.slice none 0 0, .slice none 0 0] 50 (0, 0)) (bkA BK348.out)) : gb361 ≠ gb348))
         have n10_ := Aside0.mk ((by rw [hg]; exact Nat.ne_of_lt (blk_lt (g := gb349) (o := .cells #[.slice Ao12 x350000_1.length co12, .slice Ao13 x350001_1.length co13] 50 (0, 0)) (bkA BK349.out)) : gb349 ≠ gb361))
         have n11_ := Aside0.mk ((by rw [hg]; exact Nat.ne_of_gt (blk_lt (g := gb349) (o := .cells #[.slice Ao12 x350000_1.length co12, .slice Ao13 x350001_1.length co13] 50 (0, 0)) (bkA BK349.out)) : gb361 ≠ gb349))
         clear HO_350000
         clear HO_350001
         clear BK348
         clear BK349
         clear HB
         have HO_350000 := n0_
         have HO_350001 := n1_
         have BK348 := n2_
         have BK349 := n3_
         have HB := n4_
         have BK361 := n5_
         have GW361 := n6_
         have GE361 := n7_
         have NB348_361 := n8_
         have NB361_348 := n9_
         have NB349_361 := n10_
         have NB361_349 := n11_
         clear n0_ n1_ n2_ n3_ n4_ n5_ n6_ n7_ n8_ n9_ n10_ n11_
         clear hb hbox hg
         refine hK.out _ _ ⟨(blk_cell BK349.out 0).trans rfl, (blk_cell BK349.out 1).trans rfl⟩ (fun hHeld => ?_)
         clear hK K
         refine norm_ (a' := ?_) ?_ ?_
         rotate_left
         ·
          show Act.put _ (some 7) _ = _
          simp only [Act.put, List.setIfInBounds_toArray, List.set_cons_zero, List.set_cons_succ, i64_w, i32_w]
          rfl
         refine one_ (i := 2) (N := some 19) #[true, true, true, false, false, false, false, true, false, false] rfl rfl (one_of HT_.out (by kernel_rfl)) (by decide) (fun K hK => ?_)
         refine goes_ Try.func30 (by kernel_rfl) rfl #[.slice A350_0 (rd_L2 l0 x12_1).length c350_0] (by rfl) rfl rfl mtA ?_
         with_reducible refine (spec_LeafHash.calls k1 _ _ (rd_L2 l0 x12_1) t351 _ ?side1 ?side2 A9.out).mono ?_
         (case side1 => exact cA (Kd.C_below HR350_0.out HB.out))
         (case side2 => exact HC350_0.out)
         rintro e w16 ⟨v352, rfl, ho0, hb⟩
         refine ⟨_, rfl, ?_⟩
         have n0_ := Aside0.mk (Kd.R_below (rA HO_350000.out) hb)
         have n1_ := Aside0.mk (Kd.S_elder' (sA HO_350001.out) (Kd.R_base ho0) hb)
         have n2_ := Aside0.mk (Kd.R_lower ho0 (below_size (hbA HB)))
         have n3_ := Aside0.mk (blk_below (g := gb348) (o := .cells #[.slice none 0 0, .slice none 0 0] 50 (0, 0)) (bkA BK348.out) hb)
         have n4_ := Aside0.mk (blk_below (g := gb349) (o := .cells #[.slice Ao12 x350000_1.length co12, .slice Ao13 x350001_1.length co13] 50 (0, 0)) (bkA BK349.out) hb)
         have n5_ := Aside0.mk (blk_below (g := gb361) (o := .cells #[.slice none 0 0, .slice none 0 0] 50 (0, 0)) (bkA BK361.out) hb)
         have n6_ := Aside0.mk (below_step (hbA HB) hb)
         clear HO_350000
         clear HO_350001
         clear BK348
         clear BK349
         clear BK361
         clear HB
         have HO_350000 := n0_
         have HO_350001 := n1_
         have HO353 := n2_
         have BK348 := n3_
         have BK349 := n4_
         have BK361 := n5_
         have HB := n6_
         clear n0_ n1_ n2_ n3_ n4_ n5_ n6_
         (try clear hb)
         (try clear hb2)
         (try clear hk)
         (try clear hi)
         (try clear ho0)
         obtain ⟨Ao17, co17, eo17⟩ := Kd.R_slice HO353.out
         (first | subst eo17 | (injection eo17 with f1_ f2_ f3_; have f4_ := f1_.symm; have f5_ := f3_.symm; clear f1_ f2_ f3_; subst f4_; subst f5_))
         refine hK.out _ _ ⟨(blk_cell BK349.out 0).trans rfl, (blk_cell BK349.out 1).trans rfl⟩ (fun hHeld => ?_)
         clear hK K
         refine norm_ (a' := ?_) ?_ ?_
         rotate_left
         ·
          show Act.put _ (some 19) _ = _
          simp only [Act.put, List.setIfInBounds_toArray, List.set_cons_zero, List.set_cons_succ, i64_w, i32_w]
          rfl
         refine one_ (i := 3) (N := some 20) #[true, true, true, true, false, false, false, true, false, false] rfl rfl (one_of HT_.out (by kernel_rfl)) (by decide) (fun K hK => ?_)
         refine goes_ Try.func69 (by kernel_rfl) rfl #[.agg #[.slice Ao12 x350000_1.length co12, .slice Ao13 x350001_1.length co13], .slice Ao17 t351.length co17] (by rfl) rfl rfl mtA ?_
         with_reducible refine (spec_StackPush.calls k1 _ _ x350000_1 _ _ x350001_1 _ _ t351 t354 t357 true _ ?side1 ?side2 ?side3 ?side4 ?side5 ?side6 A10.out).mono ?_
         (case side1 => repeat (first | exact (Kd.R_reads' HO_350000.out).2.2 | (with_reducible refine Kd.C_alloc ?_ _) | (with_reducible refine Kd.C_drewN ?_ _) | (with_reducible refine Kd.C_drew ?_)))
         (case side2 => exact (Kd.R_reads' HO_350000.out).2.1)
         (case side3 => repeat (first | exact (Kd.S_reads' HO_350001.out).2.2 | (with_reducible refine Kd.C_alloc ?_ _) | (with_reducible refine Kd.C_drewN ?_ _) | (with_reducible refine Kd.C_drew ?_)))
         (case side4 => exact (Kd.S_reads' HO_350001.out).2.1)
         (case side5 => repeat (first | exact (Kd.R_reads' HO353.out).2.2 | (with_reducible refine Kd.C_alloc ?_ _) | (with_reducible refine Kd.C_drewN ?_ _) | (with_reducible refine Kd.C_drew ?_)))
         (case side6 => exact (Kd.R_reads' HO353.out).2.1)
         rintro e w18 ⟨v355, v358, rfl, ho0, ho1, hb⟩
         refine ⟨_, rfl, ?_⟩
         have n0_ := Aside0.mk (Kd.R_elder' (rA HO_350000.out) (Kd.R_base ho0) hb)
         have n1_ := Aside0.mk (Kd.S_elder' (sA HO_350001.out) (Kd.S_base ho1) hb)
         have n2_ := Aside0.mk (Kd.R_below (rA HO353.out) hb)
         have n3_ := Aside0.mk (Kd.R_lower (Kd.R_new' ho0 (Kd.R_lt (rA HO_350000.out))) (below_size (hbA HB)))
         have n4_ := Aside0.mk (Kd.S_lower (Kd.S_new' (Kd.S_new' ho1 (Kd.S_lt (sA HO_350001.out))) (Kd.R_lt (rA HO353.out))) (below_size (hbA HB)))
         have n5_ := Aside0.mk (blk_below (g := gb348) (o := .cells #[.slice none 0 0, .slice none 0 0] 50 (0, 0)) (bkA BK348.out) hb)
         have n6_ := Aside0.mk (blk_below (g := gb349) (o := .cells #[.slice Ao12 x350000_1.length co12, .slice Ao13 x350001_1.length co13] 50 (0, 0)) (bkA BK349.out) hb)
         have n7_ := Aside0.mk (blk_below (g := gb361) (o := .cells #[.slice none 0 0, .slice none 0 0] 50 (0, 0)) (bkA BK361.out) hb)
         have n8_ := Aside0.mk (below_step (hbA HB) hb)
         clear HO_350000
         clear HO_350001
         clear HO353
         clear BK348
         clear BK349
         clear BK361
         clear HB
         have HO_350000 := n0_
         have HO_350001 := n1_
         have HO353 := n2_
         have HO356 := n3_
         have HO359 := n4_
         have BK348 := n5_
         have BK349 := n6_
         have BK361 := n7_
         have HB := n8_
         clear n0_ n1_ n2_ n3_ n4_ n5_ n6_ n7_ n8_
         (try clear hb)
         (try clear hb2)
         (try clear hk)
         (try clear hi)
         (try clear ho0)
         (try clear ho1)
         refine hK.out _ _ ⟨(blk_cell BK349.out 0).trans rfl, (blk_cell BK349.out 1).trans rfl⟩ (fun hHeld => ?_)
         clear hK K
         refine norm_ (a' := ?_) ?_ ?_
         rotate_left
         ·
          show Act.put _ (some 20) _ = _
          simp only [Act.put, List.setIfInBounds_toArray, List.set_cons_zero, List.set_cons_succ, i64_w, i32_w]
          rfl
         refine pure_ (i := 4) (N := some 16) (v := ?_) (a' := ?_) #[true, true, true, true, true, false, false, true, false, false] rfl rfl (any_of HT_.out (by kernel_rfl)) (fun _ _ _ h => h) (Or.inl ⟨by rfl, ?_⟩) ?_ ?_
         rotate_left
         ·
          intro w'
          go_simp
          with_reducible rfl
         rotate_left
         ·
          simp only [Act.put, List.setIfInBounds_toArray, List.set_cons_zero, List.set_cons_succ, i64_w, i32_w]
          rfl
         refine pure_ (i := 5) (N := some 21) (v := ?_) (a' := ?_) #[true, true, true, true, true, true, false, true, false, false] rfl rfl (any_of HT_.out (by kernel_rfl)) (fun _ _ _ h => h) (Or.inl ⟨by rfl, ?_⟩) ?_ ?_
         rotate_left
         ·
          intro w'
          go_simp
          with_reducible rfl
         rotate_left
         ·
          simp only [Act.put, List.setIfInBounds_toArray, List.set_cons_zero, List.set_cons_succ, i64_w, i32_w]
          rfl
         refine pure_ (i := 6) (N := some 22) (v := ?_) (a' := ?_) #[true, true, true, true, true, true, true, true, false, false] rfl rfl (any_of HT_.out (by kernel_rfl)) (fun _ _ _ h => h) (Or.inl ⟨by rfl, ?_⟩) ?_ ?_
         rotate_left
         ·
          intro w'
          go_simp
          with_reducible rfl
         rotate_left
         ·
          simp only [Act.put, List.setIfInBounds_toArray, List.set_cons_zero, List.set_cons_succ, i64_w, i32_w]
          rfl
         exact norm_ (by simp only [putAll, Act.put, List.setIfInBounds_toArray, List.set_cons_zero, List.set_cons_succ]) (hCont (.slice Ao17 t351.length co17, v355, v358, gb361) _ ⟨hHeld, (rA HO353.out), (by (with_reducible repeat (first | apply Kd.R_alloc | apply Kd.R_drewN | apply Kd.R_drew)); exact Kd.R_mono HO356.out (fun _ hk => hk.2)), (by (with_reducible repeat (first | apply Kd.S_alloc | apply Kd.S_drewN | apply Kd.S_drew)); exact Kd.S_mono HO359.out (fun _ hk => ⟨hk.2, hk.1.2⟩)), (by (with_reducible repeat (first | apply Kd.R_alloc | apply Kd.R_drewN | apply Kd.R_drew)); exact Kd.R_mono HO_350000.out (fun _ hk => hk.2)), (by (with_reducible repeat (first | apply Kd.S_alloc | apply Kd.S_drewN | apply Kd.S_drew)); exact Kd.S_mono HO_350001.out (fun _ hk => ⟨hk.1.2, hk.2⟩)), (bkA BK348.out), (bkA BK349.out), (bkA BK361.out), GW361.out, GE361.out, NB348_361.out, NB361_348.out, NB349_361.out, NB361_349.out, (hbA HB)⟩)
       rintro ⟨v352, v355, v358, gb361⟩ w19 ⟨hS_, h0_, h1_, h2_, h3_, h4_, h5_, h6_, h7_, h8_, h9_, h10_, h11_, h12_, h13_, h14_⟩
       have n0_ : Aside0 (Kd.R (Kd.int .u8) 5 w19 w.heap.size (fun _ => True) v352 t351) := ⟨h0_⟩
       have n1_ : Aside0 (Kd.R (Kd.int .i64) 3 w19 w.heap.size (fun k_ => some k_ ≠ (.slice Ao12 x350000_1.length co12 : Value).ownBlock) v355 t354) := ⟨h1_⟩
       have n2_ : Aside0 (Kd.S (Kd.slice 5 (Kd.int .u8)) 23 w19 w.heap.size (fun k_ => some k_ ≠ (v352 : Value).ownBlock ∧ some k_ ≠ (.slice Ao13 x350001_1.length co13 : Value).ownBlock) v358 t357) := ⟨h2_⟩
       have n3_ : Aside0 (Kd.R (Kd.int .i64) 3 w19 w.heap.size (fun k_ => some k_ ≠ (v355 : Value).ownBlock) (.slice Ao12 x350000_1.length co12) x350000_1) := ⟨h3_⟩
       have n4_ : Aside0 (Kd.S (Kd.slice 5 (Kd.int .u8)) 23 w19 w.heap.size (fun k_ => some k_ ≠ (v352 : Value).ownBlock ∧ some k_ ≠ (v358 : Value).ownBlock) (.slice Ao13 x350001_1.length co13) x350001_1) := ⟨h4_⟩
       have n5_ : Aside0 (w19.heap[gb348]? = some (.cells #[.slice none 0 0, .slice none 0 0] 50 (0, 0))) := ⟨h5_⟩
       have n6_ : Aside0 (w19.heap[gb349]? = some (.cells #[.slice Ao12 x350000_1.length co12, .slice Ao13 x350001_1.length co13] 50 (0, 0))) := ⟨h6_⟩
       have n7_ : Aside0 (w19.heap[gb361]? = some (.cells #[.slice none 0 0, .slice none 0 0] 50 (0, 0))) := ⟨h7_⟩
       have n8_ : Aside0 (w.heap.size ≤ gb361) := ⟨h8_⟩
       have n9_ : Aside0 (w.heap.size ≤ gb361) := ⟨h9_⟩
       have n10_ : Aside0 (gb348 ≠ gb361) := ⟨h10_⟩
       have n11_ : Aside0 (gb361 ≠ gb348) := ⟨h11_⟩
       have n12_ : Aside0 (gb349 ≠ gb361) := ⟨h12_⟩
       have n13_ : Aside0 (gb361 ≠ gb349) := ⟨h13_⟩
       have n14_ : Aside0 (Below w.heap.size w w19) := ⟨h14_⟩
       clear HO_350000
       clear HO_350001
       clear BK348
       clear BK349
       clear HB
       clear h0_ h1_ h2_ h3_ h4_ h5_ h6_ h7_ h8_ h9_ h10_ h11_ h12_ h13_ h14_
       have HO353 := n0_
       have HO356 := n1_
       have HO359 := n2_
       have HO_350000 := n3_
       have HO_350001 := n4_
       have BK348 := n5_
       have BK349 := n6_
       have BK361 := n7_
       have GW361 := n8_
       have GE361 := n9_
       have NB348_361 := n10_
       have NB361_348 := n11_
       have NB349_361 := n12_
       have NB361_349 := n13_
       have HB := n14_
       clear n0_ n1_ n2_ n3_ n4_ n5_ n6_ n7_ n8_ n9_ n10_ n11_ n12_ n13_ n14_
       have hHeld : w19.cell? ⟨gb349, 0, none⟩ = some (.slice Ao12 x350000_1.length co12) ∧ w19.cell? ⟨gb349, 1, none⟩ = some (.slice Ao13 x350001_1.length co13) := hS_
       obtain ⟨Ao20, co20, eo20⟩ := Kd.R_slice HO356.out
       (first | subst eo20 | (injection eo20 with f1_ f2_ f3_; have f4_ := f1_.symm; have f5_ := f3_.symm; clear f1_ f2_ f3_; subst f4_; subst f5_))
       obtain ⟨Ao22, co22, eo22⟩ := Kd.S_slice HO359.out
       (first | subst eo22 | (injection eo22 with f1_ f2_ f3_; have f4_ := f1_.symm; have f5_ := f3_.symm; clear f1_ f2_ f3_; subst f4_; subst f5_))
       refine norm_ (a' := ?_) ?_ ?_
       rotate_left
       ·
        simp only [putAll, Act.put, List.setIfInBounds_toArray, List.set_cons_zero, List.set_cons_succ]
        rfl
       refine one_ (i := 8) (N := none) #[true, true, true, true, true, true, true, true, true, false] rfl rfl (one_of HT_.out (by kernel_rfl)) (by decide) (fun K hK => ?_)
       have hs21 : w19.cell? ⟨gb361, 0, none⟩ = some (.slice none 0 0) := (blk_cell BK361.out 0).trans rfl
       have hfs21 := blk_frozen BK361.out 0
       have hns21_0 := NB348_361.out
       have hns21_1 := NB349_361.out
       have hms21_0 := NB361_348.out
       have hms21_1 := NB361_349.out
       have hs23 : w19.cell? ⟨gb361, 1, none⟩ = some (.slice none 0 0) := (blk_cell BK361.out 1).trans rfl
       have hfs23 := blk_frozen BK361.out 1
       have hns23_0 := NB348_361.out
       have hns23_1 := NB349_361.out
       have hms23_0 := NB361_348.out
       have hms23_1 := NB361_349.out
       refine skip_ (w1 := ?_) (by rfl) rfl ?_ ?_
       rotate_left
       ·
        go_simp
        rfl
       refine hK.out _ _ ⟨((cell_far (p := ⟨gb361, _, none⟩) NB349_361.out _).trans (((cell_far (p := ⟨gb361, _, none⟩) NB349_361.out _).trans (hHeld.1)))), ((cell_far (p := ⟨gb361, _, none⟩) NB349_361.out _).trans (((cell_far (p := ⟨gb361, _, none⟩) NB349_361.out _).trans (hHeld.2))))⟩ (fun hHeld => ?_)
       clear hK K
       refine pure_ (i := 9) (N := some 8) (v := ?_) (a' := ?_) #[true, true, true, true, true, true, true, true, true, true] rfl rfl (any_of HT_.out (by kernel_rfl)) (fun _ _ _ h => h) (Or.inl ⟨by rfl, ?_⟩) ?_ ?_
       rotate_left
       ·
        intro w'
        go_simp
        with_reducible rfl
       rotate_left
       ·
        simp only [Act.put, List.setIfInBounds_toArray, List.set_cons_zero, List.set_cons_succ, i64_w, i32_w]
        rfl
       refine done_ (done_of HT_.out (by kernel_rfl)) ?_
       have hnb24 := NB361_348.out
       have hnc24 := NB348_361.out
       have hnb25 := NB361_349.out
       have hnc25 := NB349_361.out
       have hcz26_0 : w19.cell? ⟨gb361, 0, none⟩ = some (.slice none 0 0) := (blk_cell BK361.out 0).trans rfl
       have hcz26_1 : w19.cell? ⟨gb361, 1, none⟩ = some (.slice none 0 0) := (blk_cell BK361.out 1).trans rfl
       have hfz26_0 := blk_frozen BK361.out 0
       have hfz26_1 := blk_frozen BK361.out 1
       have hnb27 := NB349_348.out
       have hnc27 := NB348_349.out
       have hcz28_0 : w19.cell? ⟨gb349, 0, none⟩ = some (.slice Ao12 x350000_1.length co12) := (blk_cell BK349.out 0).trans rfl
       have hcz28_1 : w19.cell? ⟨gb349, 1, none⟩ = some (.slice Ao13 x350001_1.length co13) := (blk_cell BK349.out 1).trans rfl
       have hfz28_0 := blk_frozen BK349.out 0
       have hfz28_1 := blk_frozen BK349.out 1
       try go_wp2
       go_roundg k1
       case measure => have := HK1.out; omega
       case rel => exact ⟨(wrap64 (x12_1 + 1)), (t354), (t357), (.slice Ao20 t354.length co20), (.slice Ao22 t357.length co22), eA, H', ⟨by have := HK1.out; omega⟩, ⟨by (with_reducible repeat (first | apply Kd.R_alloc | apply Kd.R_drewN | apply Kd.R_drew)); exact Kd.R_mono (Kd.R_far (p := ⟨gb349, 1, none⟩) (Kd.R_far (p := ⟨gb349, 0, none⟩) (Kd.R_far (p := ⟨gb361, 1, none⟩) (Kd.R_far (p := ⟨gb361, 0, none⟩) (Kd.R_types (Kd.R_types HO356.out BK361.out (by decide)) BK349.out (by decide)) (fun _ hk => hk.1.2) (.slice Ao20 t354.length co20)) (fun _ hk => hk.1.2) (.slice Ao22 t357.length co22)) (fun _ hk => hk.2) (.slice Ao20 t354.length co20)) (fun _ hk => hk.2) (.slice Ao22 t357.length co22)) (fun _ hk => trivial)⟩, ⟨by (with_reducible repeat (first | apply Kd.S_alloc | apply Kd.S_drewN | apply Kd.S_drew)); exact Kd.S_mono (Kd.S_far (p := ⟨gb349, 1, none⟩) (Kd.S_far (p := ⟨gb349, 0, none⟩) (Kd.S_far (p := ⟨gb361, 1, none⟩) (Kd.S_far (p := ⟨gb361, 0, none⟩) (Kd.S_types (Kd.S_types HO359.out BK361.out (by decide)) BK349.out (by decide)) (fun _ hk => hk.1.2) (.slice Ao20 t354.length co20)) (fun _ hk => hk.1.2) (.slice Ao22 t357.length co22)) (fun _ hk => hk.2) (.slice Ao20 t354.length co20)) (fun _ hk => hk.2) (.slice Ao22 t357.length co22)) (fun _ hk => trivial)⟩, ⟨by (with_reducible repeat (first | refine blk_drewN ?_ _ | refine blk_drew ?_ | refine blk_alloc ?_ _)); refine blk_far ?_ NB348_349.out _; (with_reducible repeat (first | refine blk_drewN ?_ _ | refine blk_drew ?_ | refine blk_alloc ?_ _)); refine blk_far ?_ NB348_349.out _; (with_reducible repeat (first | refine blk_drewN ?_ _ | refine blk_drew ?_ | refine blk_alloc ?_ _)); refine blk_far ?_ NB348_361.out _; (with_reducible repeat (first | refine blk_drewN ?_ _ | refine blk_drew ?_ | refine blk_alloc ?_ _)); refine blk_far ?_ NB348_361.out _; (with_reducible repeat (first | refine blk_drewN ?_ _ | refine blk_drew ?_ | refine blk_alloc ?_ _)); exact BK348.out⟩, ⟨by (with_reducible repeat (first | refine blk_drewN ?_ _ | refine blk_drew ?_ | refine blk_alloc ?_ _)); refine blk_put (cs := #[.slice Ao20 t354.length co20, .slice Ao13 x350001_1.length co13]) ?_ 1 _ rfl; (with_reducible repeat (first | refine blk_drewN ?_ _ | refine blk_drew ?_ | refine blk_alloc ?_ _)); refine blk_put (cs := #[.slice Ao12 x350000_1.length co12, .slice Ao13 x350001_1.length co13]) ?_ 0 _ rfl; (with_reducible repeat (first | refine blk_drewN ?_ _ | refine blk_drew ?_ | refine blk_alloc ?_ _)); refine blk_far ?_ NB349_361.out _; (with_reducible repeat (first | refine blk_drewN ?_ _ | refine blk_drew ?_ | refine blk_alloc ?_ _)); refine blk_far ?_ NB349_361.out _; (with_reducible repeat (first | refine blk_drewN ?_ _ | refine blk_drew ?_ | refine blk_alloc ?_ _)); exact BK349.out⟩, ⟨hbA HB⟩⟩
      ·
       replace c11 := Bool.eq_false_iff.mpr c11
       subst c11
       have H1 : (some (([] : List Int), ([] : List (List Int)), false)) = some (r1, r2, r3) := by rw [if_neg (show ¬ (false = true) by decide)] at H; exact H
       clear H
       have H := H1
       clear H1
       simp only [Option.some.injEq, Prod.mk.injEq] at H
       obtain ⟨rfl, rfl, rfl⟩ := H
       have p350 : 0 ≤ (x12_1 : Int) := of_decide_eq_true asA
       have q350 : x12_1 < (l0.length : Int) := of_decide_eq_true asA
       obtain ⟨ad350, A350_0, c350_0, e350, hx350_0, hl350_0, hi350_0⟩ := at_L2 HR0.out x12_1 p350 q350
       cases e350
       replace hx350_0 := (HB.out.cell (World.block_lt_of_cell? w _ hx350_0)).trans hx350_0
       have HR350_0 := Aside0.mk hi350_0
       have HC350_0 := Aside0.mk hl350_0
       clear hi350_0 hl350_0
       replace p350 := eq_true p350
       replace q350 := eq_true q350
       obtain ⟨Ao29, co29, eo29⟩ := Kd.R_slice HO_350000.out
       subst eo29
       obtain ⟨Ao30, co30, eo30⟩ := Kd.S_slice HO_350001.out
       subst eo30
       try go_wp2
       have n0_ := Aside0.mk (Kd.R_drew HO_350000.out)
       have n1_ := Aside0.mk (Kd.S_drew HO_350001.out)
       have n2_ := Aside0.mk (blk_drew BK348.out)
       have n3_ := Aside0.mk (blk_drew BK349.out)
       have n4_ := Aside0.mk (below_drew1 HB.out)
       clear HO_350000
       clear HO_350001
       clear BK348
       clear BK349
       clear HB
       have HO_350000 := n0_
       have HO_350001 := n1_
       have BK348 := n2_
       have BK349 := n3_
       have HB := n4_
       clear n0_ n1_ n2_ n3_ n4_
       refine start_ (n := 10) (S := fun w' => w'.cell? ⟨gb349, 0, none⟩ = some (.slice Ao29 x350000_1.length co29) ∧ w'.cell? ⟨gb349, 1, none⟩ = some (.slice Ao30 x350001_1.length co30)) (ds := []) #[false, false, false, false, false, false, false, false, false, false] (by kernel_rfl) rfl rfl ⟨(blk_cell BK349.out 0).trans rfl, (blk_cell BK349.out 1).trans rfl⟩ (fun hHeld => ?_); refine with_tabW spec_StackOf.tab5 spec_StackOf.bits5 (fun HT_ HW_ => ?_)
       generalize wr.drew = w31 at HO_350000 HO_350001 BK348 BK349 HB hHeld ⊢
       refine pure_ (i := 1) (N := some 18) (v := ?_) (a' := ?_) #[false, true, false, false, false, false, false, false, false, false] rfl rfl (any_of HT_.out (by kernel_rfl)) (fun _ _ _ h => h) (Or.inl ⟨by rfl, ?_⟩) ?_ ?_
       rotate_left
       ·
        intro w'
        go_simp
        with_reducible rfl
       rotate_left
       ·
        simp only [Act.put, List.setIfInBounds_toArray, List.set_cons_zero, List.set_cons_succ, i64_w, i32_w]
        rfl
       refine take_ (i := 0) (N := some 17) (v := ?_) (a' := ?_) #[true, true, false, false, false, false, false, false, false, false] rfl rfl (take_ofW HT_.out HW_.out (by kernel_rfl)) (fun _ _ _ h => h) (Or.inl ⟨by rfl, ?_⟩) hHeld ?_ ?_
       rotate_left
       ·
        rintro w' ⟨s0, s1⟩
        go_simp
        with_reducible rfl
       rotate_left
       ·
        simp only [Act.put, List.setIfInBounds_toArray, List.set_cons_zero, List.set_cons_succ, i64_w, i32_w]
        rfl
       refine join_ (σ := Value × Value × Value × Nat) 2 #[true, true, true, true, true, true, true, true, false, false] (fun s_ => [(19, s_.1), (20, .tuple #[.agg #[s_.2.1, s_.2.2.1], .bool false]), (7, .pointer (some ⟨s_.2.2.2, 0, none⟩)), (16, .tuple #[.agg #[s_.2.1, s_.2.2.1], .bool false]), (21, .agg #[s_.2.1, s_.2.2.1]), (22, .bool false)]) (fun s_ w' => (w'.cell? ⟨gb349, 0, none⟩ = some (.slice Ao29 x350000_1.length co29) ∧ w'.cell? ⟨gb349, 1, none⟩ = some (.slice Ao30 x350001_1.length co30)) ∧ (Kd.R (Kd.int .u8) 5 w' w.heap.size (fun _ => True) s_.1 t351) ∧ (Kd.R (Kd.int .i64) 3 w' w.heap.size (fun k_ => some k_ ≠ (.slice Ao29 x350000_1.length co29 : Value).ownBlock) s_.2.1 t354) ∧ (Kd.S (Kd.slice 5 (Kd.int .u8)) 23 w' w.heap.size (fun k_ => some k_ ≠ (s_.1 : Value).ownBlock ∧ some k_ ≠ (.slice Ao30 x350001_1.length co30 : Value).ownBlock) s_.2.2.1 t357) ∧ (Kd.R (Kd.int .i64) 3 w' w.heap.size (fun k_ => some k_ ≠ (s_.2.1 : Value).ownBlock) (.slice Ao29 x350000_1.length co29) x350000_1) ∧ (Kd.S (Kd.slice 5 (Kd.int .u8)) 23 w' w.heap.size (fun k_ => some k_ ≠ (s_.1 : Value).ownBlock ∧ some k_ ≠ (s_.2.2.1 : Value).ownBlock) (.slice Ao30 x350001_1.length co30) x350001_1) ∧ (w'.heap[gb348]? = some (.cells #[.slice none 0 0, .slice none 0 0] 50 (0, 0))) ∧ (w'.heap[gb349]? = some (.cells #[.slice Ao29 x350000_1.length co29, .slice Ao30 x350001_1.length co30] 50 (0, 0))) ∧ (w'.heap[s_.2.2.2]? = some (.cells #[.slice none 0 0, .slice none 0 0] 50 (0, 0))) ∧ (w.heap.size ≤ s_.2.2.2) ∧ (w.heap.size ≤ s_.2.2.2) ∧ (gb348 ≠ s_.2.2.2) ∧ (s_.2.2.2 ≠ gb348) ∧ (gb349 ≠ s_.2.2.2) ∧ (s_.2.2.2 ≠ gb349) ∧ (Below w.heap.size w w')) ?_ ?_
       rotate_left
       ·
        intro hCont
        refine two_ (i := 2) (j := 7) (Ni := some 19) (Nj := some 7) #[true, true, true, false, false, false, false, false, false, false] #[true, true, false, false, false, false, false, true, false, false] rfl rfl rfl rfl (two_of HT_.out (by kernel_rfl)) (by decide) (by decide) (fun K hK => ?_) (fun K hK => ?_)
        ·
         skip
         refine goes_ Try.func30 (by kernel_rfl) rfl #[.slice A350_0 (rd_L2 l0 x12_1).length c350_0] (by rfl) rfl rfl mtA ?_
         with_reducible refine (spec_LeafHash.calls k1 _ _ (rd_L2 l0 x12_1) t351 _ ?side1 ?side2 A9.out).mono ?_
         (case side1 => exact cA (Kd.C_below HR350_0.out HB.out))
         (case side2 => exact HC350_0.out)
         rintro e w32 ⟨v352, rfl, ho0, hb⟩
         refine ⟨_, rfl, ?_⟩
         have n0_ := Aside0.mk (Kd.R_below (rA HO_350000.out) hb)
         have n1_ := Aside0.mk (Kd.S_elder' (sA HO_350001.out) (Kd.R_base ho0) hb)
         have n2_ := Aside0.mk (Kd.R_lower ho0 (below_size (hbA HB)))
         have n3_ := Aside0.mk (blk_below (g := gb348) (o := .cells #[.slice none 0 0, .slice none 0 0] 50 (0, 0)) (bkA BK348.out) hb)
         have n4_ := Aside0.mk (blk_below (g := gb349) (o := .cells #[.slice Ao29 x350000_1.length co29, .slice Ao30 x350001_1.length co30] 50 (0, 0)) (bkA BK349.out) hb)
         have n5_ := Aside0.mk (below_step (hbA HB) hb)
         clear HO_350000
         clear HO_350001
         clear BK348
         clear BK349
         clear HB
         have HO_350000 := n0_
         have HO_350001 := n1_
         have HO353 := n2_
         have BK348 := n3_
         have BK349 := n4_
         have HB := n5_
         clear n0_ n1_ n2_ n3_ n4_ n5_
         (try clear hb)
         (try clear hb2)
         (try clear hk)
         (try clear hi)
         (try clear ho0)
         obtain ⟨Ao33, co33, eo33⟩ := Kd.R_slice HO353.out
         (first | subst eo33 | (injection eo33 with f1_ f2_ f3_; have f4_ := f1_.symm; have f5_ := f3_.symm; clear f1_ f2_ f3_; subst f4_; subst f5_))
         refine hK.out _ _ ⟨(blk_cell BK349.out 0).trans rfl, (blk_cell BK349.out 1).trans rfl⟩ (fun hHeld => ?_)
         clear hK K
         refine norm_ (a' := ?_) ?_ ?_
         rotate_left
         ·
          show Act.put _ (some 19) _ = _
          simp only [Act.put, List.setIfInBounds_toArray, List.set_cons_zero, List.set_cons_succ, i64_w, i32_w]
          rfl
         refine two_ (i := 3) (j := 7) (Ni := some 20) (Nj := some 7) #[true, true, true, true, false, false, false, false, false, false] #[true, true, true, false, false, false, false, true, false, false] rfl rfl rfl rfl (two_of HT_.out (by kernel_rfl)) (by decide) (by decide) (fun K hK => ?_) (fun K hK => ?_)
         ·
          skip
          refine goes_ Try.func69 (by kernel_rfl) rfl #[.agg #[.slice Ao29 x350000_1.length co29, .slice Ao30 x350001_1.length co30], .slice Ao33 t351.length co33] (by rfl) rfl rfl mtA ?_
          with_reducible refine (spec_StackPush.calls k1 _ _ x350000_1 _ _ x350001_1 _ _ t351 t354 t357 false _ ?side1 ?side2 ?side3 ?side4 ?side5 ?side6 A10.out).mono ?_
          (case side1 => repeat (first | exact (Kd.R_reads' HO_350000.out).2.2 | (with_reducible refine Kd.C_alloc ?_ _) | (with_reducible refine Kd.C_drewN ?_ _) | (with_reducible refine Kd.C_drew ?_)))
          (case side2 => exact (Kd.R_reads' HO_350000.out).2.1)
          (case side3 => repeat (first | exact (Kd.S_reads' HO_350001.out).2.2 | (with_reducible refine Kd.C_alloc ?_ _) | (with_reducible refine Kd.C_drewN ?_ _) | (with_reducible refine Kd.C_drew ?_)))
          (case side4 => exact (Kd.S_reads' HO_350001.out).2.1)
          (case side5 => repeat (first | exact (Kd.R_reads' HO353.out).2.2 | (with_reducible refine Kd.C_alloc ?_ _) | (with_reducible refine Kd.C_drewN ?_ _) | (with_reducible refine Kd.C_drew ?_)))
          (case side6 => exact (Kd.R_reads' HO353.out).2.1)
          rintro e w34 ⟨v355, v358, rfl, ho0, ho1, hb⟩
          refine ⟨_, rfl, ?_⟩
          have n0_ := Aside0.mk (Kd.R_elder' (rA HO_350000.out) (Kd.R_base ho0) hb)
          have n1_ := Aside0.mk (Kd.S_elder' (sA HO_350001.out) (Kd.S_base ho1) hb)
          have n2_ := Aside0.mk (Kd.R_below (rA HO353.out) hb)
          have n3_ := Aside0.mk (Kd.R_lower (Kd.R_new' ho0 (Kd.R_lt (rA HO_350000.out))) (below_size (hbA HB)))
          have n4_ := Aside0.mk (Kd.S_lower (Kd.S_new' (Kd.S_new' ho1 (Kd.S_lt (sA HO_350001.out))) (Kd.R_lt (rA HO353.out))) (below_size (hbA HB)))
          have n5_ := Aside0.mk (blk_below (g := gb348) (o := .cells #[.slice none 0 0, .slice none 0 0] 50 (0, 0)) (bkA BK348.out) hb)
          have n6_ := Aside0.mk (blk_below (g := gb349) (o := .cells #[.slice Ao29 x350000_1.length co29, .slice Ao30 x350001_1.length co30] 50 (0, 0)) (bkA BK349.out) hb)
          have n7_ := Aside0.mk (below_step (hbA HB) hb)
          clear HO_350000
          clear HO_350001
          clear HO353
          clear BK348
          clear BK349
          clear HB
          have HO_350000 := n0_
          have HO_350001 := n1_
          have HO353 := n2_
          have HO356 := n3_
          have HO359 := n4_
          have BK348 := n5_
          have BK349 := n6_
          have HB := n7_
          clear n0_ n1_ n2_ n3_ n4_ n5_ n6_ n7_
          (try clear hb)
          (try clear hb2)
          (try clear hk)
          (try clear hi)
          (try clear ho0)
          (try clear ho1)
          refine hK.out _ _ ⟨(blk_cell BK349.out 0).trans rfl, (blk_cell BK349.out 1).trans rfl⟩ (fun hHeld => ?_)
          clear hK K
          refine norm_ (a' := ?_) ?_ ?_
          rotate_left
          ·
           show Act.put _ (some 20) _ = _
           simp only [Act.put, List.setIfInBounds_toArray, List.set_cons_zero, List.set_cons_succ, i64_w, i32_w]
           rfl
          refine pure_ (i := 4) (N := some 16) (v := ?_) (a' := ?_) #[true, true, true, true, true, false, false, false, false, false] rfl rfl (any_of HT_.out (by kernel_rfl)) (fun _ _ _ h => h) (Or.inl ⟨by rfl, ?_⟩) ?_ ?_
          rotate_left
          ·
           intro w'
           go_simp
           with_reducible rfl
          rotate_left
          ·
           simp only [Act.put, List.setIfInBounds_toArray, List.set_cons_zero, List.set_cons_succ, i64_w, i32_w]
           rfl
          refine pure_ (i := 5) (N := some 21) (v := ?_) (a' := ?_) #[true, true, true, true, true, true, false, false, false, false] rfl rfl (any_of HT_.out (by kernel_rfl)) (fun _ _ _ h => h) (Or.inl ⟨by rfl, ?_⟩) ?_ ?_
          rotate_left
          ·
           intro w'
           go_simp
           with_reducible rfl
          rotate_left
          ·
           simp only [Act.put, List.setIfInBounds_toArray, List.set_cons_zero, List.set_cons_succ, i64_w, i32_w]
           rfl
          refine pure_ (i := 6) (N := some 22) (v := ?_) (a' := ?_) #[true, true, true, true, true, true, true, false, false, false] rfl rfl (any_of HT_.out (by kernel_rfl)) (fun _ _ _ h => h) (Or.inl ⟨by rfl, ?_⟩) ?_ ?_
          rotate_left
          ·
           intro w'
           go_simp
           with_reducible rfl
          rotate_left
          ·
           simp only [Act.put, List.setIfInBounds_toArray, List.set_cons_zero, List.set_cons_succ, i64_w, i32_w]
           rfl
          refine one_ (i := 7) (N := some 7) #[true, true, true, true, true, true, true, true, false, false] rfl rfl (one_of HT_.out (by kernel_rfl)) (by decide) (fun K hK => ?_)
          refine box_step ?hg (N := 7) ?hd (cs := #[.slice none 0 0, .slice none 0 0]) (t := 50) ?hr ?_; (case hd => rfl); (case hg => rfl); (case hr => first | (go_simp; done) | (go_simp; rfl))
          intro gb361 hg w35 hbox hb
          have n0_ := Aside0.mk (Kd.R_below (rA HO_350000.out) hb)
          have n1_ := Aside0.mk (Kd.S_below (sA HO_350001.out) hb)
          have n2_ := Aside0.mk (Kd.R_below (rA HO353.out) hb)
          have n3_ := Aside0.mk (Kd.R_below (rA HO356.out) hb)
          have n4_ := Aside0.mk (Kd.S_below (sA HO359.out) hb)
          have n5_ := Aside0.mk (blk_below (g := gb348) (o := .cells #[.slice none 0 0, .slice none 0 0] 50 (0, 0)) (bkA BK348.out) hb)
          have n6_ := Aside0.mk (blk_below (g := gb349) (o := .cells #[.slice Ao29 x350000_1.length co29, .slice Ao30 x350001_1.length co30] 50 (0, 0)) (bkA BK349.out) hb)
          have n7_ := Aside0.mk (below_step (hbA HB) hb)
          have n8_ := Aside0.mk (hbox)
          have n9_ := Aside0.mk ((by rw [hg]; exact (below_size (hbA HB)) : w.heap.size ≤ gb361))
          have n10_ := Aside0.mk ((by rw [hg]; exact (below_size (hbA HB)) : w.heap.size ≤ gb361))
          have n11_ := Aside0.mk ((by rw [hg]; exact Nat.ne_of_lt (blk_lt (g := gb348) (o := .cells #[.slice none 0 0, .slice none 0 0] 50 (0, 0)) (bkA BK348.out)) : gb348 ≠ gb361))
          have n12_ := Aside0.mk ((by rw [hg]; exact Nat.ne_of_gt (blk_lt (g := gb348) (o := .cells #[.slice none 0 0, .slice none 0 0] 50 (0, 0)) (bkA BK348.out)) : gb361 ≠ gb348))
          have n13_ := Aside0.mk ((by rw [hg]; exact Nat.ne_of_lt (blk_lt (g := gb349) (o := .cells #[.slice Ao29 x350000_1.length co29, .slice Ao30 x350001_1.length co30] 50 (0, 0)) (bkA BK349.out)) : gb349 ≠ gb361))
          have n14_ := Aside0.mk ((by rw [hg]; exact Nat.ne_of_gt (blk_lt (g := gb349) (o := .cells #[.slice Ao29 x350000_1.length co29, .slice Ao30 x350001_1.length co30] 50 (0, 0)) (bkA BK349.out)) : gb361 ≠ gb349))
          clear HO_350000
          clear HO_350001
          clear HO353
          clear HO356
          clear HO359
          clear BK348
          clear BK349
          clear HB
          have HO_350000 := n0_
          have HO_350001 := n1_
          have HO353 := n2_
          have HO356 := n3_
          have HO359 := n4_
          have BK348 := n5_
          have BK349 := n6_
          have HB := n7_
          have BK361 := n8_
          have GW361 := n9_
          have GE361 := n10_
          have NB348_361 := n11_
          have NB361_348 := n12_
          have NB349_361 := n13_
          have NB361_349 := n14_
          clear n0_ n1_ n2_ n3_ n4_ n5_ n6_ n7_ n8_ n9_ n10_ n11_ n12_ n13_ n14_
          clear hb hbox hg
          refine hK.out _ _ ⟨(blk_cell BK349.out 0).trans rfl, (blk_cell BK349.out 1).trans rfl⟩ (fun hHeld => ?_)
          clear hK K
          refine norm_ (a' := ?_) ?_ ?_
          rotate_left
          ·
           show Act.put _ (some 7) _ = _
           simp only [Act.put, List.setIfInBounds_toArray, List.set_cons_zero, List.set_cons_succ, i64_w, i32_w]
           rfl
          exact norm_ (by simp only [putAll, Act.put, List.setIfInBounds_toArray, List.set_cons_zero, List.set_cons_succ]) (hCont (.slice Ao33 t351.length co33, v355, v358, gb361) _ ⟨hHeld, (rA HO353.out), (by (with_reducible repeat (first | apply Kd.R_alloc | apply Kd.R_drewN | apply Kd.R_drew)); exact Kd.R_mono HO356.out (fun _ hk => hk.2)), (by (with_reducible repeat (first | apply Kd.S_alloc | apply Kd.S_drewN | apply Kd.S_drew)); exact Kd.S_mono HO359.out (fun _ hk => ⟨hk.2, hk.1.2⟩)), (by (with_reducible repeat (first | apply Kd.R_alloc | apply Kd.R_drewN | apply Kd.R_drew)); exact Kd.R_mono HO_350000.out (fun _ hk => hk.2)), (by (with_reducible repeat (first | apply Kd.S_alloc | apply Kd.S_drewN | apply Kd.S_drew)); exact Kd.S_mono HO_350001.out (fun _ hk => ⟨hk.1.2, hk.2⟩)), (bkA BK348.out), (bkA BK349.out), (bkA BK361.out), GW361.out, GE361.out, NB348_361.out, NB361_348.out, NB349_361.out, NB361_349.out, (hbA HB)⟩)
         ·
          skip
          refine box_step ?hg (N := 7) ?hd (cs := #[.slice none 0 0, .slice none 0 0]) (t := 50) ?hr ?_; (case hd => rfl); (case hg => rfl); (case hr => first | (go_simp; done) | (go_simp; rfl))
          intro gb361 hg w33 hbox hb
          have n0_ := Aside0.mk (Kd.R_below (rA HO_350000.out) hb)
          have n1_ := Aside0.mk (Kd.S_below (sA HO_350001.out) hb)
          have n2_ := Aside0.mk (Kd.R_below (rA HO353.out) hb)
          have n3_ := Aside0.mk (blk_below (g := gb348) (o := .cells #[.slice none 0 0, .slice none 0 0] 50 (0, 0)) (bkA BK348.out) hb)
          have n4_ := Aside0.mk (blk_below (g := gb349) (o := .cells #[.slice Ao29 x350000_1.length co29, .slice Ao30 x350001_1.length co30] 50 (0, 0)) (bkA BK349.out) hb)
          have n5_ := Aside0.mk (below_step (hbA HB) hb)
          have n6_ := Aside0.mk (hbox)
          have n7_ := Aside0.mk ((by rw [hg]; exact (below_size (hbA HB)) : w.heap.size ≤ gb361))
          have n8_ := Aside0.mk ((by rw [hg]; exact (below_size (hbA HB)) : w.heap.size ≤ gb361))
          have n9_ := Aside0.mk ((by rw [hg]; exact Nat.ne_of_lt (blk_lt (g := gb348) (o := .cells #[.slice none 0 0, .slice none 0 0] 50 (0, 0)) (bkA BK348.out)) : gb348 ≠ gb361))
          have n10_ := Aside0.mk ((by rw [hg]; exact Nat.ne_of_gt (blk_lt (g := gb348) (o := .cells #[.slice none 0 0, .slice none 0 0] 50 (0, 0)) (bkA BK348.out)) : gb361 ≠ gb348))
          have n11_ := Aside0.mk ((by rw [hg]; exact Nat.ne_of_lt (blk_lt (g := gb349) (o := .cells #[.slice Ao29 x350000_1.length co29, .slice Ao30 x350001_1.length co30] 50 (0, 0)) (bkA BK349.out)) : gb349 ≠ gb361))
          have n12_ := Aside0.mk ((by rw [hg]; exact Nat.ne_of_gt (blk_lt (g := gb349) (o := .cells #[.slice Ao29 x350000_1.length co29, .slice Ao30 x350001_1.length co30] 50 (0, 0)) (bkA BK349.out)) : gb361 ≠ gb349))
          clear HO_350000
          clear HO_350001
          clear HO353
          clear BK348
          clear BK349
          clear HB
          have HO_350000 := n0_
          have HO_350001 := n1_
          have HO353 := n2_
          have BK348 := n3_
          have BK349 := n4_
          have HB := n5_
          have BK361 := n6_
          have GW361 := n7_
          have GE361 := n8_
          have NB348_361 := n9_
          have NB361_348 := n10_
          have NB349_361 := n11_
          have NB361_349 := n12_
          clear n0_ n1_ n2_ n3_ n4_ n5_ n6_ n7_ n8_ n9_ n10_ n11_ n12_
          clear hb hbox hg
          obtain ⟨Ao34, co34, eo34⟩ := Kd.R_slice HO353.out
          (first | subst eo34 | (injection eo34 with f1_ f2_ f3_; have f4_ := f1_.symm; have f5_ := f3_.symm; clear f1_ f2_ f3_; subst f4_; subst f5_))
          refine hK.out _ _ ⟨(blk_cell BK349.out 0).trans rfl, (blk_cell BK349.out 1).trans rfl⟩ (fun hHeld => ?_)
          clear hK K
          refine norm_ (a' := ?_) ?_ ?_
          rotate_left
          ·
           show Act.put _ (some 7) _ = _
           simp only [Act.put, List.setIfInBounds_toArray, List.set_cons_zero, List.set_cons_succ, i64_w, i32_w]
           rfl
          refine one_ (i := 3) (N := some 20) #[true, true, true, true, false, false, false, true, false, false] rfl rfl (one_of HT_.out (by kernel_rfl)) (by decide) (fun K hK => ?_)
          refine goes_ Try.func69 (by kernel_rfl) rfl #[.agg #[.slice Ao29 x350000_1.length co29, .slice Ao30 x350001_1.length co30], .slice Ao34 t351.length co34] (by rfl) rfl rfl mtA ?_
          with_reducible refine (spec_StackPush.calls k1 _ _ x350000_1 _ _ x350001_1 _ _ t351 t354 t357 false _ ?side1 ?side2 ?side3 ?side4 ?side5 ?side6 A10.out).mono ?_
          (case side1 => repeat (first | exact (Kd.R_reads' HO_350000.out).2.2 | (with_reducible refine Kd.C_alloc ?_ _) | (with_reducible refine Kd.C_drewN ?_ _) | (with_reducible refine Kd.C_drew ?_)))
          (case side2 => exact (Kd.R_reads' HO_350000.out).2.1)
          (case side3 => repeat (first | exact (Kd.S_reads' HO_350001.out).2.2 | (with_reducible refine Kd.C_alloc ?_ _) | (with_reducible refine Kd.C_drewN ?_ _) | (with_reducible refine Kd.C_drew ?_)))
          (case side4 => exact (Kd.S_reads' HO_350001.out).2.1)
          (case side5 => repeat (first | exact (Kd.R_reads' HO353.out).2.2 | (with_reducible refine Kd.C_alloc ?_ _) | (with_reducible refine Kd.C_drewN ?_ _) | (with_reducible refine Kd.C_drew ?_)))
          (case side6 => exact (Kd.R_reads' HO353.out).2.1)
          rintro e w35 ⟨v355, v358, rfl, ho0, ho1, hb⟩
          refine ⟨_, rfl, ?_⟩
          have n0_ := Aside0.mk (Kd.R_elder' (rA HO_350000.out) (Kd.R_base ho0) hb)
          have n1_ := Aside0.mk (Kd.S_elder' (sA HO_350001.out) (Kd.S_base ho1) hb)
          have n2_ := Aside0.mk (Kd.R_below (rA HO353.out) hb)
          have n3_ := Aside0.mk (Kd.R_lower (Kd.R_new' ho0 (Kd.R_lt (rA HO_350000.out))) (below_size (hbA HB)))
          have n4_ := Aside0.mk (Kd.S_lower (Kd.S_new' (Kd.S_new' ho1 (Kd.S_lt (sA HO_350001.out))) (Kd.R_lt (rA HO353.out))) (below_size (hbA HB)))
          have n5_ := Aside0.mk (blk_below (g := gb348) (o := .cells #[.slice none 0 0, .slice none 0 0] 50 (0, 0)) (bkA BK348.out) hb)
          have n6_ := Aside0.mk (blk_below (g := gb349) (o := .cells #[.slice Ao29 x350000_1.length co29, .slice Ao30 x350001_1.length co30] 50 (0, 0)) (bkA BK349.out) hb)
          have n7_ := Aside0.mk (blk_below (g := gb361) (o := .cells #[.slice none 0 0, .slice none 0 0] 50 (0, 0)) (bkA BK361.out) hb)
          have n8_ := Aside0.mk (below_step (hbA HB) hb)
          clear HO_350000
          clear HO_350001
          clear HO353
          clear BK348
          clear BK349
          clear BK361
          clear HB
          have HO_350000 := n0_
          have HO_350001 := n1_
          have HO353 := n2_
          have HO356 := n3_
          have HO359 := n4_
          have BK348 := n5_
          have BK349 := n6_
          have BK361 := n7_
          have HB := n8_
          clear n0_ n1_ n2_ n3_ n4_ n5_ n6_ n7_ n8_
          (try clear hb)
          (try clear hb2)
          (try clear hk)
          (try clear hi)
          (try clear ho0)
          (try clear ho1)
          refine hK.out _ _ ⟨(blk_cell BK349.out 0).trans rfl, (blk_cell BK349.out 1).trans rfl⟩ (fun hHeld => ?_)
          clear hK K
          refine norm_ (a' := ?_) ?_ ?_
          rotate_left
          ·
           show Act.put _ (some 20) _ = _
           simp only [Act.put, List.setIfInBounds_toArray, List.set_cons_zero, List.set_cons_succ, i64_w, i32_w]
           rfl
          refine pure_ (i := 4) (N := some 16) (v := ?_) (a' := ?_) #[true, true, true, true, true, false, false, true, false, false] rfl rfl (any_of HT_.out (by kernel_rfl)) (fun _ _ _ h => h) (Or.inl ⟨by rfl, ?_⟩) ?_ ?_
          rotate_left
          ·
           intro w'
           go_simp
           with_reducible rfl
          rotate_left
          ·
           simp only [Act.put, List.setIfInBounds_toArray, List.set_cons_zero, List.set_cons_succ, i64_w, i32_w]
           rfl
          refine pure_ (i := 5) (N := some 21) (v := ?_) (a' := ?_) #[true, true, true, true, true, true, false, true, false, false] rfl rfl (any_of HT_.out (by kernel_rfl)) (fun _ _ _ h => h) (Or.inl ⟨by rfl, ?_⟩) ?_ ?_
          rotate_left
          ·
           intro w'
           go_simp
           with_reducible rfl
          rotate_left
          ·
           simp only [Act.put, List.setIfInBounds_toArray, List.set_cons_zero, List.set_cons_succ, i64_w, i32_w]
           rfl
          refine pure_ (i := 6) (N := some 22) (v := ?_) (a' := ?_) #[true, true, true, true, true, true, true, true, false, false] rfl rfl (any_of HT_.out (by kernel_rfl)) (fun _ _ _ h => h) (Or.inl ⟨by rfl, ?_⟩) ?_ ?_
          rotate_left
          ·
           intro w'
           go_simp
           with_reducible rfl
          rotate_left
          ·
           simp only [Act.put, List.setIfInBounds_toArray, List.set_cons_zero, List.set_cons_succ, i64_w, i32_w]
           rfl
          exact norm_ (by simp only [putAll, Act.put, List.setIfInBounds_toArray, List.set_cons_zero, List.set_cons_succ]) (hCont (.slice Ao34 t351.length co34, v355, v358, gb361) _ ⟨hHeld, (rA HO353.out), (by (with_reducible repeat (first | apply Kd.R_alloc | apply Kd.R_drewN | apply Kd.R_drew)); exact Kd.R_mono HO356.out (fun _ hk => hk.2)), (by (with_reducible repeat (first | apply Kd.S_alloc | apply Kd.S_drewN | apply Kd.S_drew)); exact Kd.S_mono HO359.out (fun _ hk => ⟨hk.2, hk.1.2⟩)), (by (with_reducible repeat (first | apply Kd.R_alloc | apply Kd.R_drewN | apply Kd.R_drew)); exact Kd.R_mono HO_350000.out (fun _ hk => hk.2)), (by (with_reducible repeat (first | apply Kd.S_alloc | apply Kd.S_drewN | apply Kd.S_drew)); exact Kd.S_mono HO_350001.out (fun _ hk => ⟨hk.1.2, hk.2⟩)), (bkA BK348.out), (bkA BK349.out), (bkA BK361.out), GW361.out, GE361.out, NB348_361.out, NB361_348.out, NB349_361.out, NB361_349.out, (hbA HB)⟩)
        ·
         skip
         refine box_step ?hg (N := 7) ?hd (cs := #[.slice none 0 0, .slice none 0 0]) (t := 50) ?hr ?_; (case hd => rfl); (case hg => rfl); (case hr => first | (go_simp; done) | (go_simp; rfl))
         intro gb361 hg w32 hbox hb
         have n0_ := Aside0.mk (Kd.R_below (rA HO_350000.out) hb)
         have n1_ := Aside0.mk (Kd.S_below (sA HO_350001.out) hb)
         have n2_ := Aside0.mk (blk_below (g := gb348) (o := .cells #[.slice none 0 0, .slice none 0 0] 50 (0, 0)) (bkA BK348.out) hb)
         have n3_ := Aside0.mk (blk_below (g := gb349) (o := .cells #[.slice Ao29 x350000_1.length co29, .slice Ao30 x350001_1.length co30] 50 (0, 0)) (bkA BK349.out) hb)
         have n4_ := Aside0.mk (below_step (hbA HB) hb)
         have n5_ := Aside0.mk (hbox)
         have n6_ := Aside0.mk ((by rw [hg]; exact (below_size (hbA HB)) : w.heap.size ≤ gb361))
         have n7_ := Aside0.mk ((by rw [hg]; exact (below_size (hbA HB)) : w.heap.size ≤ gb361))
         have n8_ := Aside0.mk ((by rw [hg]; exact Nat.ne_of_lt (blk_lt (g := gb348) (o := .cells #[.slice none 0 0, .slice none 0 0] 50 (0, 0)) (bkA BK348.out)) : gb348 ≠ gb361))
         have n9_ := Aside0.mk ((by rw [hg]; exact Nat.ne_of_gt (blk_lt (g := gb348) (o := .cells #[.slice none 0 0, .slice none 0 0] 50 (0, 0)) (bkA BK348.out)) : gb361 ≠ gb348))
         have n10_ := Aside0.mk ((by rw [hg]; exact Nat.ne_of_lt (blk_lt (g := gb349) (o := .cells #[.slice Ao29 x350000_1.length co29, .slice Ao30 x350001_1.length co30] 50 (0, 0)) (bkA BK349.out)) : gb349 ≠ gb361))
         have n11_ := Aside0.mk ((by rw [hg]; exact Nat.ne_of_gt (blk_lt (g := gb349) (o := .cells #[.slice Ao29 x350000_1.length co29, .slice Ao30 x350001_1.length co30] 50 (0, 0)) (bkA BK349.out)) : gb361 ≠ gb349))
         clear HO_350000
         clear HO_350001
         clear BK348
         clear BK349
         clear HB
         have HO_350000 := n0_
         have HO_350001 := n1_
         have BK348 := n2_
         have BK349 := n3_
         have HB := n4_
         have BK361 := n5_
         have GW361 := n6_
         have GE361 := n7_
         have NB348_361 := n8_
         have NB361_348 := n9_
         have NB349_361 := n10_
         have NB361_349 := n11_
         clear n0_ n1_ n2_ n3_ n4_ n5_ n6_ n7_ n8_ n9_ n10_ n11_
         clear hb hbox hg
         refine hK.out _ _ ⟨(blk_cell BK349.out 0).trans rfl, (blk_cell BK349.out 1).trans rfl⟩ (fun hHeld => ?_)
         clear hK K
         refine norm_ (a' := ?_) ?_ ?_
         rotate_left
         ·
          show Act.put _ (some 7) _ = _
          simp only [Act.put, List.setIfInBounds_toArray, List.set_cons_zero, List.set_cons_succ, i64_w, i32_w]
          rfl
         refine one_ (i := 2) (N := some 19) #[true, true, true, false, false, false, false, true, false, false] rfl rfl (one_of HT_.out (by kernel_rfl)) (by decide) (fun K hK => ?_)
         refine goes_ Try.func30 (by kernel_rfl) rfl #[.slice A350_0 (rd_L2 l0 x12_1).length c350_0] (by rfl) rfl rfl mtA ?_
         with_reducible refine (spec_LeafHash.calls k1 _ _ (rd_L2 l0 x12_1) t351 _ ?side1 ?side2 A9.out).mono ?_
         (case side1 => exact cA (Kd.C_below HR350_0.out HB.out))
         (case side2 => exact HC350_0.out)
         rintro e w33 ⟨v352, rfl, ho0, hb⟩
         refine ⟨_, rfl, ?_⟩
         have n0_ := Aside0.mk (Kd.R_below (rA HO_350000.out) hb)
         have n1_ := Aside0.mk (Kd.S_elder' (sA HO_350001.out) (Kd.R_base ho0) hb)
         have n2_ := Aside0.mk (Kd.R_lower ho0 (below_size (hbA HB)))
         have n3_ := Aside0.mk (blk_below (g := gb348) (o := .cells #[.slice none 0 0, .slice none 0 0] 50 (0, 0)) (bkA BK348.out) hb)
         have n4_ := Aside0.mk (blk_below (g := gb349) (o := .cells #[.slice Ao29 x350000_1.length co29, .slice Ao30 x350001_1.length co30] 50 (0, 0)) (bkA BK349.out) hb)
         have n5_ := Aside0.mk (blk_below (g := gb361) (o := .cells #[.slice none 0 0, .slice none 0 0] 50 (0, 0)) (bkA BK361.out) hb)
         have n6_ := Aside0.mk (below_step (hbA HB) hb)
         clear HO_350000
         clear HO_350001
         clear BK348
         clear BK349
         clear BK361
         clear HB
         have HO_350000 := n0_
         have HO_350001 := n1_
         have HO353 := n2_
         have BK348 := n3_
         have BK349 := n4_
         have BK361 := n5_
         have HB := n6_
         clear n0_ n1_ n2_ n3_ n4_ n5_ n6_
         (try clear hb)
         (try clear hb2)
         (try clear hk)
         (try clear hi)
         (try clear ho0)
         obtain ⟨Ao34, co34, eo34⟩ := Kd.R_slice HO353.out
         (first | subst eo34 | (injection eo34 with f1_ f2_ f3_; have f4_ := f1_.symm; have f5_ := f3_.symm; clear f1_ f2_ f3_; subst f4_; subst f5_))
         refine hK.out _ _ ⟨(blk_cell BK349.out 0).trans rfl, (blk_cell BK349.out 1).trans rfl⟩ (fun hHeld => ?_)
         clear hK K
         refine norm_ (a' := ?_) ?_ ?_
         rotate_left
         ·
          show Act.put _ (some 19) _ = _
          simp only [Act.put, List.setIfInBounds_toArray, List.set_cons_zero, List.set_cons_succ, i64_w, i32_w]
          rfl
         refine one_ (i := 3) (N := some 20) #[true, true, true, true, false, false, false, true, false, false] rfl rfl (one_of HT_.out (by kernel_rfl)) (by decide) (fun K hK => ?_)
         refine goes_ Try.func69 (by kernel_rfl) rfl #[.agg #[.slice Ao29 x350000_1.length co29, .slice Ao30 x350001_1.length co30], .slice Ao34 t351.length co34] (by rfl) rfl rfl mtA ?_
         with_reducible refine (spec_StackPush.calls k1 _ _ x350000_1 _ _ x350001_1 _ _ t351 t354 t357 false _ ?side1 ?side2 ?side3 ?side4 ?side5 ?side6 A10.out).mono ?_
         (case side1 => repeat (first | exact (Kd.R_reads' HO_350000.out).2.2 | (with_reducible refine Kd.C_alloc ?_ _) | (with_reducible refine Kd.C_drewN ?_ _) | (with_reducible refine Kd.C_drew ?_)))
         (case side2 => exact (Kd.R_reads' HO_350000.out).2.1)
         (case side3 => repeat (first | exact (Kd.S_reads' HO_350001.out).2.2 | (with_reducible refine Kd.C_alloc ?_ _) | (with_reducible refine Kd.C_drewN ?_ _) | (with_reducible refine Kd.C_drew ?_)))
         (case side4 => exact (Kd.S_reads' HO_350001.out).2.1)
         (case side5 => repeat (first | exact (Kd.R_reads' HO353.out).2.2 | (with_reducible refine Kd.C_alloc ?_ _) | (with_reducible refine Kd.C_drewN ?_ _) | (with_reducible refine Kd.C_drew ?_)))
         (case side6 => exact (Kd.R_reads' HO353.out).2.1)
         rintro e w35 ⟨v355, v358, rfl, ho0, ho1, hb⟩
         refine ⟨_, rfl, ?_⟩
         have n0_ := Aside0.mk (Kd.R_elder' (rA HO_350000.out) (Kd.R_base ho0) hb)
         have n1_ := Aside0.mk (Kd.S_elder' (sA HO_350001.out) (Kd.S_base ho1) hb)
         have n2_ := Aside0.mk (Kd.R_below (rA HO353.out) hb)
         have n3_ := Aside0.mk (Kd.R_lower (Kd.R_new' ho0 (Kd.R_lt (rA HO_350000.out))) (below_size (hbA HB)))
         have n4_ := Aside0.mk (Kd.S_lower (Kd.S_new' (Kd.S_new' ho1 (Kd.S_lt (sA HO_350001.out))) (Kd.R_lt (rA HO353.out))) (below_size (hbA HB)))
         have n5_ := Aside0.mk (blk_below (g := gb348) (o := .cells #[.slice none 0 0, .slice none 0 0] 50 (0, 0)) (bkA BK348.out) hb)
         have n6_ := Aside0.mk (blk_below (g := gb349) (o := .cells #[.slice Ao29 x350000_1.length co29, .slice Ao30 x350001_1.length co30] 50 (0, 0)) (bkA BK349.out) hb)
         have n7_ := Aside0.mk (blk_below (g := gb361) (o := .cells #[.slice none 0 0, .slice none 0 0] 50 (0, 0)) (bkA BK361.out) hb)
         have n8_ := Aside0.mk (below_step (hbA HB) hb)
         clear HO_350000
         clear HO_350001
         clear HO353
         clear BK348
         clear BK349
         clear BK361
         clear HB
         have HO_350000 := n0_
         have HO_350001 := n1_
         have HO353 := n2_
         have HO356 := n3_
         have HO359 := n4_
         have BK348 := n5_
         have BK349 := n6_
         have BK361 := n7_
         have HB := n8_
         clear n0_ n1_ n2_ n3_ n4_ n5_ n6_ n7_ n8_
         (try clear hb)
         (try clear hb2)
         (try clear hk)
         (try clear hi)
         (try clear ho0)
         (try clear ho1)
         refine hK.out _ _ ⟨(blk_cell BK349.out 0).trans rfl, (blk_cell BK349.out 1).trans rfl⟩ (fun hHeld => ?_)
         clear hK K
         refine norm_ (a' := ?_) ?_ ?_
         rotate_left
         ·
          show Act.put _ (some 20) _ = _
          simp only [Act.put, List.setIfInBounds_toArray, List.set_cons_zero, List.set_cons_succ, i64_w, i32_w]
          rfl
         refine pure_ (i := 4) (N := some 16) (v := ?_) (a' := ?_) #[true, true, true, true, true, false, false, true, false, false] rfl rfl (any_of HT_.out (by kernel_rfl)) (fun _ _ _ h => h) (Or.inl ⟨by rfl, ?_⟩) ?_ ?_
         rotate_left
         ·
          intro w'
          go_simp
          with_reducible rfl
         rotate_left
         ·
          simp only [Act.put, List.setIfInBounds_toArray, List.set_cons_zero, List.set_cons_succ, i64_w, i32_w]
          rfl
         refine pure_ (i := 5) (N := some 21) (v := ?_) (a' := ?_) #[true, true, true, true, true, true, false, true, false, false] rfl rfl (any_of HT_.out (by kernel_rfl)) (fun _ _ _ h => h) (Or.inl ⟨by rfl, ?_⟩) ?_ ?_
         rotate_left
         ·
          intro w'
          go_simp
          with_reducible rfl
         rotate_left
         ·
          simp only [Act.put, List.setIfInBounds_toArray, List.set_cons_zero, List.set_cons_succ, i64_w, i32_w]
          rfl
         refine pure_ (i := 6) (N := some 22) (v := ?_) (a' := ?_) #[true, true, true, true, true, true, true, true, false, false] rfl rfl (any_of HT_.out (by kernel_rfl)) (fun _ _ _ h => h) (Or.inl ⟨by rfl, ?_⟩) ?_ ?_
         rotate_left
         ·
          intro w'
          go_simp
          with_reducible rfl
         rotate_left
         ·
          simp only [Act.put, List.setIfInBounds_toArray, List.set_cons_zero, List.set_cons_succ, i64_w, i32_w]
          rfl
         exact norm_ (by simp only [putAll, Act.put, List.setIfInBounds_toArray, List.set_cons_zero, List.set_cons_succ]) (hCont (.slice Ao34 t351.length co34, v355, v358, gb361) _ ⟨hHeld, (rA HO353.out), (by (with_reducible repeat (first | apply Kd.R_alloc | apply Kd.R_drewN | apply Kd.R_drew)); exact Kd.R_mono HO356.out (fun _ hk => hk.2)), (by (with_reducible repeat (first | apply Kd.S_alloc | apply Kd.S_drewN | apply Kd.S_drew)); exact Kd.S_mono HO359.out (fun _ hk => ⟨hk.2, hk.1.2⟩)), (by (with_reducible repeat (first | apply Kd.R_alloc | apply Kd.R_drewN | apply Kd.R_drew)); exact Kd.R_mono HO_350000.out (fun _ hk => hk.2)), (by (with_reducible repeat (first | apply Kd.S_alloc | apply Kd.S_drewN | apply Kd.S_drew)); exact Kd.S_mono HO_350001.out (fun _ hk => ⟨hk.1.2, hk.2⟩)), (bkA BK348.out), (bkA BK349.out), (bkA BK361.out), GW361.out, GE361.out, NB348_361.out, NB361_348.out, NB349_361.out, NB361_349.out, (hbA HB)⟩)
       rintro ⟨v352, v355, v358, gb361⟩ w36 ⟨hS_, h0_, h1_, h2_, h3_, h4_, h5_, h6_, h7_, h8_, h9_, h10_, h11_, h12_, h13_, h14_⟩
       have n0_ : Aside0 (Kd.R (Kd.int .u8) 5 w36 w.heap.size (fun _ => True) v352 t351) := ⟨h0_⟩
       have n1_ : Aside0 (Kd.R (Kd.int .i64) 3 w36 w.heap.size (fun k_ => some k_ ≠ (.slice Ao29 x350000_1.length co29 : Value).ownBlock) v355 t354) := ⟨h1_⟩
       have n2_ : Aside0 (Kd.S (Kd.slice 5 (Kd.int .u8)) 23 w36 w.heap.size (fun k_ => some k_ ≠ (v352 : Value).ownBlock ∧ some k_ ≠ (.slice Ao30 x350001_1.length co30 : Value).ownBlock) v358 t357) := ⟨h2_⟩
       have n3_ : Aside0 (Kd.R (Kd.int .i64) 3 w36 w.heap.size (fun k_ => some k_ ≠ (v355 : Value).ownBlock) (.slice Ao29 x350000_1.length co29) x350000_1) := ⟨h3_⟩
       have n4_ : Aside0 (Kd.S (Kd.slice 5 (Kd.int .u8)) 23 w36 w.heap.size (fun k_ => some k_ ≠ (v352 : Value).ownBlock ∧ some k_ ≠ (v358 : Value).ownBlock) (.slice Ao30 x350001_1.length co30) x350001_1) := ⟨h4_⟩
       have n5_ : Aside0 (w36.heap[gb348]? = some (.cells #[.slice none 0 0, .slice none 0 0] 50 (0, 0))) := ⟨h5_⟩
       have n6_ : Aside0 (w36.heap[gb349]? = some (.cells #[.slice Ao29 x350000_1.length co29, .slice Ao30 x350001_1.length co30] 50 (0, 0))) := ⟨h6_⟩
       have n7_ : Aside0 (w36.heap[gb361]? = some (.cells #[.slice none 0 0, .slice none 0 0] 50 (0, 0))) := ⟨h7_⟩
       have n8_ : Aside0 (w.heap.size ≤ gb361) := ⟨h8_⟩
       have n9_ : Aside0 (w.heap.size ≤ gb361) := ⟨h9_⟩
       have n10_ : Aside0 (gb348 ≠ gb361) := ⟨h10_⟩
       have n11_ : Aside0 (gb361 ≠ gb348) := ⟨h11_⟩
       have n12_ : Aside0 (gb349 ≠ gb361) := ⟨h12_⟩
       have n13_ : Aside0 (gb361 ≠ gb349) := ⟨h13_⟩
       have n14_ : Aside0 (Below w.heap.size w w36) := ⟨h14_⟩
       clear HO_350000
       clear HO_350001
       clear BK348
       clear BK349
       clear HB
       clear h0_ h1_ h2_ h3_ h4_ h5_ h6_ h7_ h8_ h9_ h10_ h11_ h12_ h13_ h14_
       have HO353 := n0_
       have HO356 := n1_
       have HO359 := n2_
       have HO_350000 := n3_
       have HO_350001 := n4_
       have BK348 := n5_
       have BK349 := n6_
       have BK361 := n7_
       have GW361 := n8_
       have GE361 := n9_
       have NB348_361 := n10_
       have NB361_348 := n11_
       have NB349_361 := n12_
       have NB361_349 := n13_
       have HB := n14_
       clear n0_ n1_ n2_ n3_ n4_ n5_ n6_ n7_ n8_ n9_ n10_ n11_ n12_ n13_ n14_
       have hHeld : w36.cell? ⟨gb349, 0, none⟩ = some (.slice Ao29 x350000_1.length co29) ∧ w36.cell? ⟨gb349, 1, none⟩ = some (.slice Ao30 x350001_1.length co30) := hS_
       obtain ⟨Ao37, co37, eo37⟩ := Kd.R_slice HO356.out
       (first | subst eo37 | (injection eo37 with f1_ f2_ f3_; have f4_ := f1_.symm; have f5_ := f3_.symm; clear f1_ f2_ f3_; subst f4_; subst f5_))
       obtain ⟨Ao39, co39, eo39⟩ := Kd.S_slice HO359.out
       (first | subst eo39 | (injection eo39 with f1_ f2_ f3_; have f4_ := f1_.symm; have f5_ := f3_.symm; clear f1_ f2_ f3_; subst f4_; subst f5_))
       refine norm_ (a' := ?_) ?_ ?_
       rotate_left
       ·
        simp only [putAll, Act.put, List.setIfInBounds_toArray, List.set_cons_zero, List.set_cons_succ]
        rfl
       refine one_ (i := 8) (N := none) #[true, true, true, true, true, true, true, true, true, false] rfl rfl (one_of HT_.out (by kernel_rfl)) (by decide) (fun K hK => ?_)
       have hs38 : w36.cell? ⟨gb361, 0, none⟩ = some (.slice none 0 0) := (blk_cell BK361.out 0).trans rfl
       have hfs38 := blk_frozen BK361.out 0
       have hns38_0 := NB348_361.out
       have hns38_1 := NB349_361.out
       have hms38_0 := NB361_348.out
       have hms38_1 := NB361_349.out
       have hs40 : w36.cell? ⟨gb361, 1, none⟩ = some (.slice none 0 0) := (blk_cell BK361.out 1).trans rfl
       have hfs40 := blk_frozen BK361.out 1
       have hns40_0 := NB348_361.out
       have hns40_1 := NB349_361.out
       have hms40_0 := NB361_348.out
       have hms40_1 := NB361_349.out
       refine skip_ (w1 := ?_) (by rfl) rfl ?_ ?_
       rotate_left
       ·
        go_simp
        rfl
       refine hK.out _ _ ⟨((cell_far (p := ⟨gb361, _, none⟩) NB349_361.out _).trans (((cell_far (p := ⟨gb361, _, none⟩) NB349_361.out _).trans (hHeld.1)))), ((cell_far (p := ⟨gb361, _, none⟩) NB349_361.out _).trans (((cell_far (p := ⟨gb361, _, none⟩) NB349_361.out _).trans (hHeld.2))))⟩ (fun hHeld => ?_)
       clear hK K
       refine pure_ (i := 9) (N := some 8) (v := ?_) (a' := ?_) #[true, true, true, true, true, true, true, true, true, true] rfl rfl (any_of HT_.out (by kernel_rfl)) (fun _ _ _ h => h) (Or.inl ⟨by rfl, ?_⟩) ?_ ?_
       rotate_left
       ·
        intro w'
        go_simp
        with_reducible rfl
       rotate_left
       ·
        simp only [Act.put, List.setIfInBounds_toArray, List.set_cons_zero, List.set_cons_succ, i64_w, i32_w]
        rfl
       refine done_ (done_of HT_.out (by kernel_rfl)) ?_
       have hnb41 := NB348_349.out
       have hnc41 := NB349_348.out
       have hnb42 := NB348_361.out
       have hnc42 := NB361_348.out
       have hcz43_0 : w36.cell? ⟨gb348, 0, none⟩ = some (.slice none 0 0) := (blk_cell BK348.out 0).trans rfl
       have hcz43_1 : w36.cell? ⟨gb348, 1, none⟩ = some (.slice none 0 0) := (blk_cell BK348.out 1).trans rfl
       have hfz43_0 := blk_frozen BK348.out 0
       have hfz43_1 := blk_frozen BK348.out 1
       try go_wp2
       refine bodyPost_ret (results_ct rfl _ _ gb348 50 #[.slice none 0 0, .slice none 0 0] (0, 0) _ rfl (by (with_reducible repeat (first | refine blk_drewN ?_ _ | refine blk_drew ?_ | refine blk_alloc ?_ _)); refine blk_put (cs := #[.slice none 0 0, .slice none 0 0]) ?_ 1 _ rfl; (with_reducible repeat (first | refine blk_drewN ?_ _ | refine blk_drew ?_ | refine blk_alloc ?_ _)); refine blk_put (cs := #[.slice none 0 0, .slice none 0 0]) ?_ 0 _ rfl; (with_reducible repeat (first | refine blk_drewN ?_ _ | refine blk_drew ?_ | refine blk_alloc ?_ _)); refine blk_far ?_ NB348_361.out _; (with_reducible repeat (first | refine blk_drewN ?_ _ | refine blk_drew ?_ | refine blk_alloc ?_ _)); refine blk_far ?_ NB348_361.out _; (with_reducible repeat (first | refine blk_drewN ?_ _ | refine blk_drew ?_ | refine blk_alloc ?_ _)); exact BK348.out) Try.underlying50 rfl (by kernel_rfl)) rfl ?_
       exact ⟨_, _, by first | rfl | (simp [errW_none, errW_some] <;> rfl) | (simp [*, errW_none, errW_some] <;> rfl), by first | exact Kd.R_nil _ _ _ _ _ | exact Kd.N_nil _ _ _ _ _ | exact Kd.V_nil _ _ _ _ _ | exact Kd.Q_nil _ _ _ _ _ | exact Kd.S_nil _ _ _ _ _, by first | exact Kd.S_nil _ _ _ _ _ | exact Kd.N_nil _ _ _ _ _ | exact Kd.V_nil _ _ _ _ _ | exact Kd.Q_nil _ _ _ _ _ | exact Kd.R_nil _ _ _ _ _, hbA HB⟩
     ·
      rw [if_neg c8] at H
      exact absurd H (by simp)
    ·
     rw [if_neg c7] at H
     exact absurd H (by simp)
   ·
    rw [if_neg c6] at H
    have c6b0 : decide (x12_1 < (l0.length : Int)) = false := decide_eq_false c6
    clear c6
    simp only [Option.some.injEq, Prod.mk.injEq] at H
    obtain ⟨rfl, rfl, rfl⟩ := H
    have hnb44 := NB349_348.out
    have hnc44 := NB348_349.out
    have hcz45_0 : wr.cell? ⟨gb349, 0, none⟩ = some (u350000) := (blk_cell BK349.out 0).trans rfl
    have hcz45_1 : wr.cell? ⟨gb349, 1, none⟩ = some (u350001) := (blk_cell BK349.out 1).trans rfl
    have hfz45_0 := blk_frozen BK349.out 0
    have hfz45_1 := blk_frozen BK349.out 1
    obtain ⟨Ao46, co46, eo46⟩ := Kd.R_slice HO_350000.out
    subst eo46
    have hcz47_0 : wr.cell? ⟨gb348, 0, none⟩ = some (.slice none 0 0) := (blk_cell BK348.out 0).trans rfl
    have hcz47_1 : wr.cell? ⟨gb348, 1, none⟩ = some (.slice none 0 0) := (blk_cell BK348.out 1).trans rfl
    have hfz47_0 := blk_frozen BK348.out 0
    have hfz47_1 := blk_frozen BK348.out 1
    obtain ⟨Ao48, co48, eo48⟩ := Kd.S_slice HO_350001.out
    subst eo48
    go_wp2
    refine bodyPost_ret (results_ct rfl _ _ gb348 50 #[.slice Ao46 x350000_1.length co46, .slice Ao48 x350001_1.length co48] (0, 0) _ rfl (by (with_reducible repeat (first | refine blk_drewN ?_ _ | refine blk_drew ?_ | refine blk_alloc ?_ _)); refine blk_put (cs := #[.slice Ao46 x350000_1.length co46, .slice none 0 0]) ?_ 1 _ rfl; (with_reducible repeat (first | refine blk_drewN ?_ _ | refine blk_drew ?_ | refine blk_alloc ?_ _)); refine blk_put (cs := #[.slice none 0 0, .slice none 0 0]) ?_ 0 _ rfl; (with_reducible repeat (first | refine blk_drewN ?_ _ | refine blk_drew ?_ | refine blk_alloc ?_ _)); exact BK348.out) Try.underlying50 rfl (by kernel_rfl)) rfl ?_
    exact ⟨_, _, by first | rfl | (simp [errW_none, errW_some] <;> rfl) | (simp [*, errW_none, errW_some] <;> rfl), by (with_reducible repeat (first | apply Kd.R_alloc | apply Kd.R_drewN | apply Kd.R_drew)); exact Kd.R_mono (Kd.R_far (p := ⟨gb348, 1, none⟩) (Kd.R_far (p := ⟨gb348, 0, none⟩) (Kd.R_types HO_350000.out BK348.out (by decide)) (fun _ hk => hk.2) (.slice Ao46 x350000_1.length co46)) (fun _ hk => hk.2) (.slice Ao48 x350001_1.length co48)) (fun _ hk => trivial), by (with_reducible repeat (first | apply Kd.S_alloc | apply Kd.S_drewN | apply Kd.S_drew)); exact Kd.S_mono (Kd.S_far (p := ⟨gb348, 1, none⟩) (Kd.S_far (p := ⟨gb348, 0, none⟩) (Kd.S_types HO_350001.out BK348.out (by decide)) (fun _ hk => hk.2) (.slice Ao46 x350000_1.length co46)) (fun _ hk => hk.2) (.slice Ao48 x350001_1.length co48)) (fun _ hk => trivial), hbA HB⟩

end Go.Proofs.Ytjfhbmbiegccnaa.QFnExactStackOf
