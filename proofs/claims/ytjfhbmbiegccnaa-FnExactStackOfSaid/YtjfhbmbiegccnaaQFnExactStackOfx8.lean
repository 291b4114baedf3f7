/- Walks of the functions that the law reaches, a contract for each (written by a program, after the kit's print, with the functions whose contracts are proved by hand). No conditions but those typed. -/
import Derived.Test.YtjfhbmbiegccnaaQFnExactStackOfx0
import Derived.Test.YtjfhbmbiegccnaaQFnExactStackOfx6
import Derived.Test.YtjfhbmbiegccnaaQFnExactStackOfx7
namespace Go.Proofs.Ytjfhbmbiegccnaa.QFnExactStackOf
open Go.RowKit Go.Proofs.YtjfhbmbiegccnaaW.PrintWords Go.Proofs.YtjfhbmbiegccnaaW.PrintLast Go.Proofs.YtjfhbmbiegccnaaW.PrintMore
attribute [local go_sem] max2_int min2_int max_two min_two max_three min_three max_four min_four   -- for this text's walks alone
set_option linter.unusedVariables false
set_option linter.unusedSimpArgs false

/-! ### spec_StackPush: function 69 -/
mutual
def spec_StackPush.j0 : Nat → List Int → Bool → List Int → List (List Int) → Option (List Int × (List (List Int)) × Bool)
 | 0, _, _, _, _ => none
 | k + 1, x1, x17, x315000, x315001 => if x17 = true then (some (([] : List Int), ([] : List (List Int)), false)) else ((spec_l01Copy.f x1).bind fun t318 => (spec_StackPush.l0 k (x315000.length : Int) 0 t318 x315000 x315001))
def spec_StackPush.j2 : Nat → Int → Int → List Int → List Int → List (List Int) → Option (List Int × (List (List Int)) × Bool)
 | 0, _, _, _, _, _ => none
 | k + 1, x6, x7, x8, x315000, x315001 => (some (([] : List Int) : List Int)).bind fun y326 => (if 0 ≤ x6 then (if x6 ≤ (x315000.length : Int) then (if y326.length + (x315000.take (x6 : Int).toNat).length < 17592186044416 then ((some (y326 ++ (x315000.take (x6 : Int).toNat) : List Int)).bind fun y330 => (if x6 ≤ (x315001.length : Int) then ((spec_l06Copy.f k (x315001.take (x6 : Int).toNat)).bind fun t337 => (if y330.length < 17592186044416 then ((some (y330 ++ [x7] : List Int)).bind fun y341 => (if t337.length < 5864062014805 then ((some (t337 ++ [x8] : List (List Int))).bind fun y344 => ((spec_StackOk.f k y341 y344).bind fun t347 => (if t347 = true then (some (y341, y344, true)) else (some (([] : List Int), ([] : List (List Int)), false))))) else (none))) else (none))) else (none))) else (none)) else (none)) else (none))
def spec_StackPush.l0 : Nat → Int → Int → List Int → List Int → List (List Int) → Option (List Int × (List (List Int)) × Bool)
 | 0, _, _, _, _, _ => none
 | k + 1, x6, x7, x8, x315000, x315001 => if x6 > 0 then (if 0 ≤ (wrap64 (x6 - 1)) then (if (wrap64 (x6 - 1)) < (x315000.length : Int) then (if (rd x315000 (wrap64 (x6 - 1))) = x7 then (if (wrap64 (x6 - 1)) < (x315001.length : Int) then ((spec_NodeHash.f k (rd_L2 x315001 (wrap64 (x6 - 1))) x8).bind fun t323 => (spec_StackPush.l0 k (wrap64 (x6 - 1)) (wrap64 (x7 + 1)) t323 x315000 x315001)) else (none)) else (spec_StackPush.j2 k x6 x7 x8 x315000 x315001)) else (none)) else (none)) else (spec_StackPush.j2 k x6 x7 x8 x315000 x315001)
end
def spec_StackPush.f (k : Nat) (l0_0 : List Int) (l0_1 : List (List Int)) (l1 : List Int) : Option (List Int × (List (List Int)) × Bool) := (spec_StackOk.f k l0_0 l0_1).bind fun t316 => (if t316 = true then ((spec_l07Hash.f l1).bind fun t317 => (spec_StackPush.j0 k l1 (!t317) l0_0 l0_1)) else (spec_StackPush.j0 k l1 true l0_0 l0_1))
theorem spec_StackPush.mono_l : ∀ k, (∀ y0 y1 y2 y3, LeO (spec_StackPush.j0 k y0 y1 y2 y3) (spec_StackPush.j0 (k + 1) y0 y1 y2 y3)) ∧ (∀ y0 y1 y2 y3 y4, LeO (spec_StackPush.j2 k y0 y1 y2 y3 y4) (spec_StackPush.j2 (k + 1) y0 y1 y2 y3 y4)) ∧ (∀ y0 y1 y2 y3 y4, LeO (spec_StackPush.l0 k y0 y1 y2 y3 y4) (spec_StackPush.l0 (k + 1) y0 y1 y2 y3 y4))
 | 0 => ⟨fun _ _ _ _ r h => by simp [spec_StackPush.j0] at h, fun _ _ _ _ _ r h => by simp [spec_StackPush.j2] at h, fun _ _ _ _ _ r h => by simp [spec_StackPush.l0] at h⟩
 | k + 1 => by
  obtain ⟨ih0, ih1, ih2⟩ := spec_StackPush.mono_l k
  refine ⟨?_, ?_, ?_⟩
  ·
   intro y0 y1 y2 y3
   unfold spec_StackPush.j0
   repeat' first
   | (with_reducible exact ih0 _ _ _ _)
   | (with_reducible exact ih1 _ _ _ _ _)
   | (with_reducible exact ih2 _ _ _ _ _)
   | (with_reducible exact spec_NodeHash.mono _ _ _)
   | (with_reducible exact spec_StackOk.mono _ _ _)
   | (with_reducible exact spec_l06Copy.mono _ _)
   | (with_reducible exact LeO.refl _)
   | (with_reducible exact LeO.none _)
   | (with_reducible refine LeO.ite ?_ ?_)
   | (with_reducible refine LeO.bind ?_ (fun _ => ?_))
   | exact ih0 _ _ _ _
   | exact ih1 _ _ _ _ _
   | exact ih2 _ _ _ _ _
   | exact spec_NodeHash.mono _ _ _
   | exact spec_StackOk.mono _ _ _
   | exact spec_l06Copy.mono _ _
   | exact LeO.none _
   | refine LeO.ite ?_ ?_
   | refine LeO.bind ?_ (fun _ => ?_)
  ·
   intro y0 y1 y2 y3 y4
   unfold spec_StackPush.j2
   repeat' first
   | (with_reducible exact ih0 _ _ _ _)
   | (with_reducible exact ih1 _ _ _ _ _)
   | (with_reducible exact ih2 _ _ _ _ _)
   | (with_reducible exact spec_NodeHash.mono _ _ _)
   | (with_reducible exact spec_StackOk.mono _ _ _)
   | (with_reducible exact spec_l06Copy.mono _ _)
   | (with_reducible exact LeO.refl _)
   | (with_reducible exact LeO.none _)
   | (with_reducible refine LeO.ite ?_ ?_)
   | (with_reducible refine LeO.bind ?_ (fun _ => ?_))
   | exact ih0 _ _ _ _
   | exact ih1 _ _ _ _ _
   | exact ih2 _ _ _ _ _
   | exact spec_NodeHash.mono _ _ _
   | exact spec_StackOk.mono _ _ _
   | exact spec_l06Copy.mono _ _
   | exact LeO.none _
   | refine LeO.ite ?_ ?_
   | refine LeO.bind ?_ (fun _ => ?_)
  ·
   intro y0 y1 y2 y3 y4
   unfold spec_StackPush.l0
   repeat' first
   | (with_reducible exact ih0 _ _ _ _)
   | (with_reducible exact ih1 _ _ _ _ _)
   | (with_reducible exact ih2 _ _ _ _ _)
   | (with_reducible exact spec_NodeHash.mono _ _ _)
   | (with_reducible exact spec_StackOk.mono _ _ _)
   | (with_reducible exact spec_l06Copy.mono _ _)
   | (with_reducible exact LeO.refl _)
   | (with_reducible exact LeO.none _)
   | (with_reducible refine LeO.ite ?_ ?_)
   | (with_reducible refine LeO.bind ?_ (fun _ => ?_))
   | exact ih0 _ _ _ _
   | exact ih1 _ _ _ _ _
   | exact ih2 _ _ _ _ _
   | exact spec_NodeHash.mono _ _ _
   | exact spec_StackOk.mono _ _ _
   | exact spec_l06Copy.mono _ _
   | exact LeO.none _
   | refine LeO.ite ?_ ?_
   | refine LeO.bind ?_ (fun _ => ?_)
theorem spec_StackPush.mono : ∀ a0 a1 a2 k, LeO (spec_StackPush.f k a0 a1 a2) (spec_StackPush.f (k + 1) a0 a1 a2) := by
 intro a0 a1 a2 k
 obtain ⟨ih0, ih1, ih2⟩ := spec_StackPush.mono_l k
 unfold spec_StackPush.f
 repeat' first
   | (with_reducible exact ih0 _ _ _ _)
   | (with_reducible exact ih1 _ _ _ _ _)
   | (with_reducible exact ih2 _ _ _ _ _)
   | (with_reducible exact spec_NodeHash.mono _ _ _)
   | (with_reducible exact spec_StackOk.mono _ _ _)
   | (with_reducible exact spec_l06Copy.mono _ _)
   | (with_reducible exact LeO.refl _)
   | (with_reducible exact LeO.none _)
   | (with_reducible refine LeO.ite ?_ ?_)
   | (with_reducible refine LeO.bind ?_ (fun _ => ?_))
   | exact ih0 _ _ _ _
   | exact ih1 _ _ _ _ _
   | exact ih2 _ _ _ _ _
   | exact spec_NodeHash.mono _ _ _
   | exact spec_StackOk.mono _ _ _
   | exact spec_l06Copy.mono _ _
   | exact LeO.none _
   | refine LeO.ite ?_ ?_
   | refine LeO.bind ?_ (fun _ => ?_)
def spec_StackPush.T10 : Bool × List (List Nat × List Nat) := (true, [([], []), ([], []), ([1], [1]), ([], []), ([2, 3], [2, 3]), ([0, 4], [0, 4]), ([], []), ([6], [6]), ([], []), ([7, 8], [7, 8]), ([9, 5], [9]), ([5, 10], [5, 10]), ([], []), ([12, 11, 10, 0, 1, 2, 3, 4, 5, 6, 7, 8, 9, 10, 11, 12], [11, 12])])
def spec_StackPush.B10 : List Nat := [0, 0, 2, 0, 14, 31, 0, 64, 0, 448, 1023, 2047, 0, 8191]
theorem spec_StackPush.tab10 : rtab .any (opsOf Try.f69 10) = spec_StackPush.T10 := by kernel_rfl
theorem spec_StackPush.bits10 : waitsOk spec_StackPush.T10.2 spec_StackPush.B10 = true := by kernel_rfl
set_option maxHeartbeats 8000000 in
set_option maxRecDepth 100000 in
theorem spec_StackPush.calls (k : Nat) (A0_0 : Option Addr) (c0_0 : Nat) (l0_0 : List Int) (A0_1 : Option Addr) (c0_1 : Nat) (l0_1 : List (List Int)) (A1 : Option Addr) (c1 : Nat) (l1 : List Int) (r1 : List Int) (r2 : List (List Int)) (r3 : Bool) (w : World) (hr0_0 : Kd.C (Kd.int .i64) w A0_0 l0_0.length l0_0) (hc0_0 : l0_0.length ≤ c0_0) (hr0_1 : Kd.C (Kd.slice 5 (Kd.int .u8)) w A0_1 l0_1.length l0_1) (hc0_1 : l0_1.length ≤ c0_1) (hr1 : Kd.C (Kd.int .u8) w A1 l1.length l1) (hc1 : l1.length ≤ c1) (h : spec_StackPush.f k l0_0 l0_1 l1 = some (r1, r2, r3)) :
  Calls Try.prog 69 #[.agg #[.slice A0_0 l0_0.length c0_0, .slice A0_1 l0_1.length c0_1], .slice A1 l1.length c1] w fun e w' => ∃ v0_ v1_ : Value, e = .returned (.tuple #[.agg #[v0_, v1_], .bool r3]) ∧ Kd.R (Kd.int .i64) 3 w' w.heap.size (fun _ => True) v0_ r1 ∧ Kd.S (Kd.slice 5 (Kd.int .u8)) 23 w' w.heap.size (fun _ => True) v1_ r2 ∧ Below w.heap.size w w' := by
 have hu50 := Try.underlying50
 have HR0_0 := Aside0.mk hr0_0
 have HC0_0 := Aside0.mk hc0_0
 clear hr0_0 hc0_0
 have HR0_1 := Aside0.mk hr0_1
 have HC0_1 := Aside0.mk hc0_1
 clear hr0_1 hc0_1
 have HR1 := Aside0.mk hr1
 have HC1 := Aside0.mk hc1
 clear hr1 hc1
 have HB := Aside0.mk (Below.refl w.heap.size w)
 have H : ((spec_StackOk.f k l0_0 l0_1).bind fun t316 => (if t316 = true then ((spec_l07Hash.f l1).bind fun t317 => (spec_StackPush.j0 k l1 (!t317) l0_0 l0_1)) else (spec_StackPush.j0 k l1 true l0_0 l0_1))) = some (r1, r2, r3) := h
 clear h
 have HC3 := Aside0.mk H
 clear H
 go_enter Try.func69, Try.ntmps69
 go_upto_region 1 with (first | ((with_reducible refine gate_dst (N := 2) rfl ?_); refine box_event ?hg (N := 2) ?hd (cs := #[.slice A0_0 l0_0.length c0_0, .slice A0_1 l0_1.length c0_1]) (t := 50) ?hr ?_; (case hd => rfl); (case hg => rfl); (case hr => first | (go_simp; done) | (go_simp; rfl)); intro gb314 hg w4 hbox hb; have n0_ := Aside0.mk (below_step (hbA HB) hb); have n1_ := Aside0.mk (hbox); have n2_ := Aside0.mk ((by rw [hg]; exact (below_size (hbA HB)) : w.heap.size ≤ gb314)); have n3_ := Aside0.mk ((by rw [hg]; exact (below_size (hbA HB)) : w.heap.size ≤ gb314)); clear HB; have HB := n0_; have BK314 := n1_; have GW314 := n2_; have GE314 := n3_; clear n0_ n1_ n2_ n3_; clear hb hbox hg) | ((with_reducible refine gate_dst (N := 4) rfl ?_); refine box_event ?hg (N := 4) ?hd (cs := #[.slice none 0 0, .slice none 0 0]) (t := 50) ?hr ?_; (case hd => rfl); (case hg => rfl); (case hr => first | (go_simp; done) | (go_simp; rfl)); intro gb315 hg w5 hbox hb; have n0_ := Aside0.mk (blk_below (g := gb314) (o := .cells #[.slice A0_0 l0_0.length c0_0, .slice A0_1 l0_1.length c0_1] 50 (0, 0)) (bkA BK314.out) hb); have n1_ := Aside0.mk (below_step (hbA HB) hb); have n2_ := Aside0.mk (hbox); have n3_ := Aside0.mk ((by rw [hg]; exact (below_size (hbA HB)) : w.heap.size ≤ gb315)); have n4_ := Aside0.mk ((by rw [hg]; exact (below_size (hbA HB)) : w.heap.size ≤ gb315)); have n5_ := Aside0.mk ((by rw [hg]; exact Nat.ne_of_lt (blk_lt (g := gb314) (o := .cells #[.slice A0_0 l0_0.length c0_0, .slice A0_1 l0_1.length c0_1] 50 (0, 0)) (bkA BK314.out)) : gb314 ≠ gb315)); have n6_ := Aside0.mk ((by rw [hg]; exact Nat.ne_of_gt (blk_lt (g := gb314) (o := .cells #[.slice A0_0 l0_0.length c0_0, .slice A0_1 l0_1.length c0_1] 50 (0, 0)) (bkA BK314.out)) : gb315 ≠ gb314)); clear BK314; clear HB; have BK314 := n0_; have HB := n1_; have BK315 := n2_; have GW315 := n3_; have GE315 := n4_; have NB314_315 := n5_; have NB315_314 := n6_; clear n0_ n1_ n2_ n3_ n4_ n5_ n6_; clear hb hbox hg))
 (try simp only [Act.put, List.setIfInBounds_toArray, List.set_cons_zero, List.set_cons_succ])
 go_cut [17] (fun v17 wc => ∃ (kq : Nat) (x17_2 : Bool), v17 = .bool x17_2 ∧ Aside0 (spec_StackPush.j0 kq l1 x17_2 l0_0 l0_1 = some (r1, r2, r3)) ∧ Aside0 (kq ≤ k) ∧ Aside0 (wc.heap[gb314]? = some (.cells #[(.slice A0_0 l0_0.length c0_0), (.slice A0_1 l0_1.length c0_1)] 50 (0, 0))) ∧ Aside0 (wc.heap[gb315]? = some (.cells #[(.slice none 0 0), (.slice none 0 0)] 50 (0, 0))) ∧ Aside0 (Below w.heap.size w wc))
 case first =>
  have H := HC3.out
  clear HC3
  replace H := Option.bind_eq_some_iff.mp H
  obtain ⟨t316, A60, H⟩ := H
  replace H : (if t316 = true then ((spec_l07Hash.f l1).bind fun t317 => (spec_StackPush.j0 k l1 (!t317) l0_0 l0_1)) else (spec_StackPush.j0 k l1 true l0_0 l0_1)) = some (r1, r2, r3) := H
  have A6 := Aside0.mk A60
  clear A60
  by_cases c7 : t316 = true
  ·
   subst c7
   have H1 : ((spec_l07Hash.f l1).bind fun t317 => (spec_StackPush.j0 k l1 (!t317) l0_0 l0_1)) = some (r1, r2, r3) := by rw [if_pos rfl] at H; exact H
   clear H
   have H := H1
   clear H1
   replace H := Option.bind_eq_some_iff.mp H
   obtain ⟨t317, A80, H⟩ := H
   replace H : (spec_StackPush.j0 k l1 (!t317) l0_0 l0_1) = some (r1, r2, r3) := H
   have A8 := Aside0.mk A80
   clear A80
   have H' := Aside0.mk H
   clear H
   have hnb9 := NB314_315.out
   have hnc9 := NB315_314.out
   have hcz10_0 : w5.cell? ⟨gb314, 0, none⟩ = some (.slice A0_0 l0_0.length c0_0) := (blk_cell BK314.out 0).trans rfl
   have hcz10_1 : w5.cell? ⟨gb314, 1, none⟩ = some (.slice A0_1 l0_1.length c0_1) := (blk_cell BK314.out 1).trans rfl
   have hfz10_0 := blk_frozen BK314.out 0
   have hfz10_1 := blk_frozen BK314.out 1
   go_wp2_with (first | ((with_reducible refine gate_callee (f := 92) rfl ?_); refine goesL_ (some 11) rfl rfl Try.func92 (by kernel_rfl) rfl #[.agg #[.slice A0_0 l0_0.length c0_0, .slice A0_1 l0_1.length c0_1]] rfl mtA ?_; (with_reducible refine (spec_StackOk.calls k _ _ l0_0 _ _ l0_1 true _ ?side1 ?side2 ?side3 ?side4 A6.out).mono ?_); (case side1 => exact cA (Kd.C_below HR0_0.out HB.out)); (case side2 => exact HC0_0.out); (case side3 => exact cA (Kd.C_below HR0_1.out HB.out)); (case side4 => exact HC0_1.out); rintro e w11 ⟨rfl, hb⟩; refine ⟨_, rfl, ?_⟩; have n0_ := Aside0.mk (blk_below (g := gb314) (o := .cells #[.slice A0_0 l0_0.length c0_0, .slice A0_1 l0_1.length c0_1] 50 (0, 0)) (bkA BK314.out) hb); have n1_ := Aside0.mk (blk_below (g := gb315) (o := .cells #[.slice none 0 0, .slice none 0 0] 50 (0, 0)) (bkA BK315.out) hb); have n2_ := Aside0.mk (below_step (hbA HB) hb); clear BK314; clear BK315; clear HB; have BK314 := n0_; have BK315 := n1_; have HB := n2_; clear n0_ n1_ n2_; (try clear hb); (try clear hb2); (try clear hk); (try clear hi)) | (go_at_call 94; (with_reducible refine (spec_l07Hash.calls _ _ l1 t317 _ ?side1 ?side2 A8.out).mono ?_); (case side1 => exact cA (Kd.C_below HR1.out HB.out)); (case side2 => exact HC1.out); rintro e w' ⟨rfl, ⟨nd, rfl⟩⟩))
   go_meet
   case rel => exact ⟨_, (!t317), eA, H', ⟨by first | omega | exact Nat.le_refl _⟩, ⟨bkA BK314.out⟩, ⟨bkA BK315.out⟩, ⟨hbA HB⟩⟩
  ·
   replace c7 := Bool.eq_false_iff.mpr c7
   subst c7
   have H1 : (spec_StackPush.j0 k l1 true l0_0 l0_1) = some (r1, r2, r3) := by rw [if_neg (show ¬ (false = true) by decide)] at H; exact H
   clear H
   have H := H1
   clear H1
   have H' := Aside0.mk H
   clear H
   have hnb12 := NB314_315.out
   have hnc12 := NB315_314.out
   have hcz13_0 : w5.cell? ⟨gb314, 0, none⟩ = some (.slice A0_0 l0_0.length c0_0) := (blk_cell BK314.out 0).trans rfl
   have hcz13_1 : w5.cell? ⟨gb314, 1, none⟩ = some (.slice A0_1 l0_1.length c0_1) := (blk_cell BK314.out 1).trans rfl
   have hfz13_0 := blk_frozen BK314.out 0
   have hfz13_1 := blk_frozen BK314.out 1
   go_wp2_with (first | ((with_reducible refine gate_callee (f := 92) rfl ?_); refine goesL_ (some 11) rfl rfl Try.func92 (by kernel_rfl) rfl #[.agg #[.slice A0_0 l0_0.length c0_0, .slice A0_1 l0_1.length c0_1]] rfl mtA ?_; (with_reducible refine (spec_StackOk.calls k _ _ l0_0 _ _ l0_1 false _ ?side1 ?side2 ?side3 ?side4 A6.out).mono ?_); (case side1 => exact cA (Kd.C_below HR0_0.out HB.out)); (case side2 => exact HC0_0.out); (case side3 => exact cA (Kd.C_below HR0_1.out HB.out)); (case side4 => exact HC0_1.out); rintro e w14 ⟨rfl, hb⟩; refine ⟨_, rfl, ?_⟩; have n0_ := Aside0.mk (blk_below (g := gb314) (o := .cells #[.slice A0_0 l0_0.length c0_0, .slice A0_1 l0_1.length c0_1] 50 (0, 0)) (bkA BK314.out) hb); have n1_ := Aside0.mk (blk_below (g := gb315) (o := .cells #[.slice none 0 0, .slice none 0 0] 50 (0, 0)) (bkA BK315.out) hb); have n2_ := Aside0.mk (below_step (hbA HB) hb); clear BK314; clear BK315; clear HB; have BK314 := n0_; have BK315 := n1_; have HB := n2_; clear n0_ n1_ n2_; (try clear hb); (try clear hb2); (try clear hk); (try clear hi)))
   go_meet
   case rel => exact ⟨_, (true), eA, H', ⟨by first | omega | exact Nat.le_refl _⟩, ⟨bkA BK314.out⟩, ⟨bkA BK315.out⟩, ⟨hbA HB⟩⟩
 case rest =>
  clear HC3
  try clear c1
  try clear p2
  try clear c6
  try clear c7
  try clear c9
  try clear c12
  try clear hcz10_0
  try clear hcz10_1
  try clear hcz13_0
  try clear hcz13_1
  try clear hfz10_0
  try clear hfz10_1
  try clear hfz13_0
  try clear hfz13_1
  obtain ⟨kq, x17_2, rfl, HA, HJ2, BK314, BK315, HB⟩ := hcut
  cases kq with
  | zero => exact absurd HA.out (by simp [spec_StackPush.j0])
  | succ kj2 =>
   have H := HA.out
   clear HA
   simp only [spec_StackPush.j0] at H
   by_cases c15 : x17_2 = true
   ·
    subst c15
    have H1 : (some (([] : List Int), ([] : List (List Int)), false)) = some (r1, r2, r3) := by rw [if_pos rfl] at H; exact H
    clear H
    have H := H1
    clear H1
    simp only [Option.some.injEq, Prod.mk.injEq] at H
    obtain ⟨rfl, rfl, rfl⟩ := H
    have hnb16 := NB315_314.out
    have hnc16 := NB314_315.out
    have hcz17_0 : wc.cell? ⟨gb315, 0, none⟩ = some (.slice none 0 0) := (blk_cell BK315.out 0).trans rfl
    have hcz17_1 : wc.cell? ⟨gb315, 1, none⟩ = some (.slice none 0 0) := (blk_cell BK315.out 1).trans rfl
    have hfz17_0 := blk_frozen BK315.out 0
    have hfz17_1 := blk_frozen BK315.out 1
    go_wp2
    refine bodyPost_ret (results_ct rfl _ _ gb315 50 #[.slice none 0 0, .slice none 0 0] (0, 0) _ rfl (by (with_reducible repeat (first | refine blk_drewN ?_ _ | refine blk_drew ?_ | refine blk_alloc ?_ _)); refine blk_put (cs := #[.slice none 0 0, .slice none 0 0]) ?_ 1 _ rfl; (with_reducible repeat (first | refine blk_drewN ?_ _ | refine blk_drew ?_ | refine blk_alloc ?_ _)); refine blk_put (cs := #[.slice none 0 0, .slice none 0 0]) ?_ 0 _ rfl; (with_reducible repeat (first | refine blk_drewN ?_ _ | refine blk_drew ?_ | refine blk_alloc ?_ _)); exact BK315.out) Try.underlying50 rfl (by kernel_rfl)) rfl ?_
    exact ⟨_, _, by first | rfl | (simp [errW_none, errW_some] <;> rfl) | (simp [*, errW_none, errW_some] <;> rfl), by first | exact Kd.R_nil _ _ _ _ _ | exact Kd.N_nil _ _ _ _ _ | exact Kd.V_nil _ _ _ _ _ | exact Kd.Q_nil _ _ _ _ _ | exact Kd.S_nil _ _ _ _ _, by first | exact Kd.S_nil _ _ _ _ _ | exact Kd.N_nil _ _ _ _ _ | exact Kd.V_nil _ _ _ _ _ | exact Kd.Q_nil _ _ _ _ _ | exact Kd.R_nil _ _ _ _ _, hbA HB⟩
   ·
    replace c15 := Bool.eq_false_iff.mpr c15
    subst c15
    have H1 : ((spec_l01Copy.f l1).bind fun t318 => (spec_StackPush.l0 kj2 (l0_0.length : Int) 0 t318 l0_0 l0_1)) = some (r1, r2, r3) := by rw [if_neg (show ¬ (false = true) by decide)] at H; exact H
    clear H
    have H := H1
    clear H1
    replace H := Option.bind_eq_some_iff.mp H
    obtain ⟨t318, A180, H⟩ := H
    replace H : (spec_StackPush.l0 kj2 (l0_0.length : Int) 0 t318 l0_0 l0_1) = some (r1, r2, r3) := H
    have A18 := Aside0.mk A180
    clear A180
    have HC19 := Aside0.mk H
    clear H
    have hnb20 := NB314_315.out
    have hnc20 := NB315_314.out
    have hcz21_0 : wc.cell? ⟨gb314, 0, none⟩ = some (.slice A0_0 l0_0.length c0_0) := (blk_cell BK314.out 0).trans rfl
    have hcz21_1 : wc.cell? ⟨gb314, 1, none⟩ = some (.slice A0_1 l0_1.length c0_1) := (blk_cell BK314.out 1).trans rfl
    have hfz21_0 := blk_frozen BK314.out 0
    have hfz21_1 := blk_frozen BK314.out 1
    go_upto_block 0 with (first | ((with_reducible refine gate_callee (f := 78) rfl ?_); refine goesL_ (some 23) rfl rfl Try.func78 (by kernel_rfl) rfl #[.slice A1 l1.length c1] rfl mtA ?_; (with_reducible refine (spec_l01Copy.calls _ _ l1 t318 _ ?side1 ?side2 A18.out).mono ?_); (case side1 => exact cA (Kd.C_below HR1.out HB.out)); (case side2 => exact HC1.out); rintro e w22 ⟨v319, rfl, ho0, hb⟩; refine ⟨_, rfl, ?_⟩; have n0_ := Aside0.mk (Kd.R_lower ho0 (below_size (hbA HB))); have n1_ := Aside0.mk (blk_below (g := gb314) (o := .cells #[.slice A0_0 l0_0.length c0_0, .slice A0_1 l0_1.length c0_1] 50 (0, 0)) (bkA BK314.out) hb); have n2_ := Aside0.mk (blk_below (g := gb315) (o := .cells #[.slice none 0 0, .slice none 0 0] 50 (0, 0)) (bkA BK315.out) hb); have n3_ := Aside0.mk (below_step (hbA HB) hb); clear BK314; clear BK315; clear HB; have HO320 := n0_; have BK314 := n1_; have BK315 := n2_; have HB := n3_; clear n0_ n1_ n2_ n3_; (try clear hb); (try clear hb2); (try clear hk); (try clear hi); (try clear ho0)))
    (try simp only [Act.put, List.setIfInBounds_toArray, List.set_cons_zero, List.set_cons_succ])
    go_cut [6, 7, 8] (fun v6 v7 v8 wc => ∃ (kq : Nat) (x6_18 : Int) (x7_18 : Int) (x8_18 : List Int), v6 = .int .i64 x6_18 ∧ v7 = .int .i64 x7_18 ∧ Aside0 (spec_StackPush.j2 kq x6_18 x7_18 x8_18 l0_0 l0_1 = some (r1, r2, r3)) ∧ Aside0 (kq ≤ kj2) ∧ Aside0 (Kd.R (Kd.int .u8) 5 wc w.heap.size (fun _ => True) v8 x8_18) ∧ Aside0 (wc.heap[gb314]? = some (.cells #[(.slice A0_0 l0_0.length c0_0), (.slice A0_1 l0_1.length c0_1)] 50 (0, 0))) ∧ Aside0 (wc.heap[gb315]? = some (.cells #[(.slice none 0 0), (.slice none 0 0)] 50 (0, 0))) ∧ Aside0 (Below w.heap.size w wc))
    case first =>
     have H := HC19.out
     clear HC19
     have H' := Aside0.mk H
     clear H
     go_wp2
     go_loopg [6, 7, 8] kj2 (fun kq v6 v7 v8 w' => ∃ (x6_2 : Int) (x7_2 : Int) (x8_2 : List Int), v6 = .int .i64 x6_2 ∧ v7 = .int .i64 x7_2 ∧ Aside0 (spec_StackPush.l0 kq x6_2 x7_2 x8_2 l0_0 l0_1 = some (r1, r2, r3)) ∧ Aside0 (kq ≤ kj2) ∧ Aside0 (Kd.R (Kd.int .u8) 5 w' w.heap.size (fun _ => True) v8 x8_2) ∧ Aside0 (w'.heap[gb314]? = some (.cells #[(.slice A0_0 l0_0.length c0_0), (.slice A0_1 l0_1.length c0_1)] 50 (0, 0))) ∧ Aside0 (w'.heap[gb315]? = some (.cells #[(.slice none 0 0), (.slice none 0 0)] 50 (0, 0))) ∧ Aside0 (Below w.heap.size w w'))
     case atStart => exact ⟨((l0_0.length : Int)), (0), (t318), eA, eA, H', ⟨Nat.le_refl _⟩, ⟨rA HO320.out⟩, ⟨bkA BK314.out⟩, ⟨bkA BK315.out⟩, ⟨hbA HB⟩⟩
     case round =>
      clear H'
      try clear c1
      try clear c2
      try clear p2
      try clear c6
      try clear c7
      try clear c9
      try clear c12
      try clear c15
      try clear c16
      try clear c20
      try clear hcz10_0
      try clear hcz10_1
      try clear hcz13_0
      try clear hcz13_1
      try clear hcz17_0
      try clear hcz17_1
      try clear hcz21_0
      try clear hcz21_1
      try clear hfz10_0
      try clear hfz10_1
      try clear hfz13_0
      try clear hfz13_1
      try clear hfz17_0
      try clear hfz17_1
      try clear hfz21_0
      try clear hfz21_1
      try clear p2
      obtain ⟨x6_2, x7_2, x8_2, rfl, rfl, HA, HK2, HO_8, BK314, BK315, HB⟩ := hrel
      cases gk with
      | zero => exact absurd HA.out (by simp [spec_StackPush.l0])
      | succ k2 =>
       have H := HA.out
       clear HA
       simp only [spec_StackPush.l0] at H
       by_cases c23 : x6_2 > 0
       ·
        rw [if_pos c23] at H
        have c23b0 : decide (0 < x6_2) = true := decide_eq_true c23
        clear c23
        (first | rw [c23b0] | (simp only [i64_w, i32_w]; rw [c23b0]) | skip)
        obtain ⟨ji24, hji24⟩ : ∃ j_ : Int, (wrap64 (x6_2 - 1)) = j_ := ⟨_, rfl⟩
        replace H : (if 0 ≤ (ji24) then (if (ji24) < (l0_0.length : Int) then (if (rd l0_0 (ji24)) = x7_2 then (if (ji24) < (l0_1.length : Int) then ((spec_NodeHash.f k2 (rd_L2 l0_1 (ji24)) x8_2).bind fun t323 => (spec_StackPush.l0 k2 ji24 (wrap64 (x7_2 + 1)) t323 l0_0 l0_1)) else (none)) else (spec_StackPush.j2 k2 x6_2 x7_2 x8_2 l0_0 l0_1)) else (none)) else (none)) = some (r1, r2, r3) := by first | (rw [hji24] at H; exact H) | (simp only [hji24] at H ⊢; exact H)
        have hji24w : (IntKind.i64.wrap (x6_2 - 1)) = ji24 := (i64_w _).trans hji24
        by_cases c25 : 0 ≤ (ji24)
        ·
         rw [if_pos c25] at H
         have c25b0 : decide (0 ≤ (ji24)) = true := decide_eq_true c25
         clear c25
         by_cases c26 : (ji24) < (l0_0.length : Int)
         ·
          rw [if_pos c26] at H
          have c26b0 : decide ((ji24) < (l0_0.length : Int)) = true := decide_eq_true c26
          clear c26
          by_cases c27 : (rd l0_0 (ji24)) = x7_2
          ·
           rw [if_pos c27] at H
           have c27b0 : ((rd l0_0 (ji24)) == x7_2) = true := beq_iff_eq.mpr c27
           have c27b1 : ((rd l0_0 (ji24)) != x7_2) = false := bne_eq_false_iff_eq.mpr c27
           clear c27
           by_cases c28 : (ji24) < (l0_1.length : Int)
           ·
            rw [if_pos c28] at H
            have c28b0 : decide ((ji24) < (l0_1.length : Int)) = true := decide_eq_true c28
            clear c28
            replace H := Option.bind_eq_some_iff.mp H
            obtain ⟨t323, A290, H⟩ := H
            replace H : (spec_StackPush.l0 k2 ji24 (wrap64 (x7_2 + 1)) t323 l0_0 l0_1) = some (r1, r2, r3) := H
            have A29 := Aside0.mk A290
            clear A290
            have H' := Aside0.mk H
            clear H
            have hnb30 := NB314_315.out
            have hnc30 := NB315_314.out
            have hcz31_0 : wr.cell? ⟨gb314, 0, none⟩ = some (.slice A0_0 l0_0.length c0_0) := (blk_cell BK314.out 0).trans rfl
            have hcz31_1 : wr.cell? ⟨gb314, 1, none⟩ = some (.slice A0_1 l0_1.length c0_1) := (blk_cell BK314.out 1).trans rfl
            have hfz31_0 := blk_frozen BK314.out 0
            have hfz31_1 := blk_frozen BK314.out 1
            have p321 : 0 ≤ ((ji24) : Int) := of_decide_eq_true asA
            have q321 : (ji24) < (l0_0.length : Int) := of_decide_eq_true asA
            obtain ⟨ad321, e321, hx321_0⟩ := Kd.at_int HR0_0.out (ji24) p321 q321
            cases e321
            replace hx321_0 := (HB.out.cell (World.block_lt_of_cell? w _ hx321_0)).trans hx321_0
            replace p321 := eq_true p321
            replace q321 := eq_true q321
            have p322 : 0 ≤ ((ji24) : Int) := of_decide_eq_true asA
            have q322 : (ji24) < (l0_1.length : Int) := of_decide_eq_true asA
            obtain ⟨ad322, A322_0, c322_0, e322, hx322_0, hl322_0, hi322_0⟩ := at_L2 HR0_1.out (ji24) p322 q322
            cases e322
            replace hx322_0 := (HB.out.cell (World.block_lt_of_cell? w _ hx322_0)).trans hx322_0
            have HR322_0 := Aside0.mk hi322_0
            have HC322_0 := Aside0.mk hl322_0
            clear hi322_0 hl322_0
            replace p322 := eq_true p322
            replace q322 := eq_true q322
            obtain ⟨Ao32, co32, eo32⟩ := Kd.R_slice HO_8.out
            subst eo32
            go_wp2_with (first | ((with_reducible refine gate_callee (f := 32) rfl ?_); refine goesL_ (some 43) rfl rfl Try.func32 (by kernel_rfl) rfl #[.slice A322_0 (rd_L2 l0_1 (ji24)).length c322_0, .slice Ao32 x8_2.length co32] rfl (by (try simp only [List.map_toArray, List.map_cons, List.map_nil]); first | done | (simp only [hji24]; rfl) | rfl | (simp only [List.length_drop, List.length_take]; rfl)) ?_; (with_reducible refine (spec_NodeHash.calls k2 _ _ (rd_L2 l0_1 (ji24)) _ _ x8_2 t323 _ ?side1 ?side2 ?side3 ?side4 A29.out).mono ?_); (case side1 => exact cA (Kd.C_below HR322_0.out HB.out)); (case side2 => exact HC322_0.out); (case side3 => repeat (first | exact (Kd.R_reads' HO_8.out).2.2 | (with_reducible refine Kd.C_alloc ?_ _) | (with_reducible refine Kd.C_drewN ?_ _) | (with_reducible refine Kd.C_drew ?_))); (case side4 => exact (Kd.R_reads' HO_8.out).2.1); rintro e w33 ⟨v324, rfl, ho0, hb⟩; refine ⟨_, rfl, ?_⟩; have n0_ := Aside0.mk (Kd.R_elder' (rA HO_8.out) (Kd.R_base ho0) hb); have n1_ := Aside0.mk (Kd.R_lower (Kd.R_new' ho0 (Kd.R_lt (rA HO_8.out))) (below_size (hbA HB))); have n2_ := Aside0.mk (blk_below (g := gb314) (o := .cells #[.slice (some ad321) l0_0.length c0_0, .slice (some ad322) l0_1.length c0_1] 50 (0, 0)) (bkA BK314.out) hb); have n3_ := Aside0.mk (blk_below (g := gb315) (o := .cells #[.slice none 0 0, .slice none 0 0] 50 (0, 0)) (bkA BK315.out) hb); have n4_ := Aside0.mk (below_step (hbA HB) hb); clear HO_8; clear BK314; clear BK315; clear HB; have HO_8 := n0_; have HO325 := n1_; have BK314 := n2_; have BK315 := n3_; have HB := n4_; clear n0_ n1_ n2_ n3_ n4_; (try clear hb); (try clear hb2); (try clear hk); (try clear hi); (try clear ho0)))
            go_roundg k2
            case measure => have := HJ2.out; have := HK2.out; omega
            case rel => exact ⟨(ji24), (wrap64 (x7_2 + 1)), (t323), (by first | rfl | (simp; done) | (simp only [← hji24] <;> (first | rfl | simp)) | (simp [*]; done)), eA, H', ⟨by have := HJ2.out; have := HK2.out; omega⟩, ⟨by (with_reducible repeat (first | apply Kd.R_alloc | apply Kd.R_drewN | apply Kd.R_drew)); exact Kd.R_mono HO325.out (fun _ hk => trivial)⟩, ⟨bkA BK314.out⟩, ⟨bkA BK315.out⟩, ⟨hbA HB⟩⟩
           ·
            rw [if_neg c28] at H
            exact absurd H (by simp)
          ·
           rw [if_neg c27] at H
           have c27b0 : ((rd l0_0 (ji24)) == x7_2) = false := beq_eq_false_iff_ne.mpr c27
           have c27b1 : ((rd l0_0 (ji24)) != x7_2) = true := bne_iff_ne.mpr c27
           have H' := Aside0.mk H
           clear H
           have hnb34 := NB314_315.out
           have hnc34 := NB315_314.out
           have hcz35_0 : wr.cell? ⟨gb314, 0, none⟩ = some (.slice A0_0 l0_0.length c0_0) := (blk_cell BK314.out 0).trans rfl
           have hcz35_1 : wr.cell? ⟨gb314, 1, none⟩ = some (.slice A0_1 l0_1.length c0_1) := (blk_cell BK314.out 1).trans rfl
           have hfz35_0 := blk_frozen BK314.out 0
           have hfz35_1 := blk_frozen BK314.out 1
           have p321 : 0 ≤ ((ji24) : Int) := of_decide_eq_true asA
           have q321 : (ji24) < (l0_0.length : Int) := of_decide_eq_true asA
           obtain ⟨ad321, e321, hx321_0⟩ := Kd.at_int HR0_0.out (ji24) p321 q321
           cases e321
           replace hx321_0 := (HB.out.cell (World.block_lt_of_cell? w _ hx321_0)).trans hx321_0
           replace p321 := eq_true p321
           replace q321 := eq_true q321
           go_wp2
           go_meet
           case rel => exact ⟨_, (x6_2), (x7_2), (x8_2), eA, eA, H', ⟨by have := HJ2.out; have := HK2.out; first | omega | exact Nat.le_refl _⟩, ⟨rA HO_8.out⟩, ⟨bkA BK314.out⟩, ⟨bkA BK315.out⟩, ⟨hbA HB⟩⟩
         ·
          rw [if_neg c26] at H
          exact absurd H (by simp)
        ·
         rw [if_neg c25] at H
         exact absurd H (by simp)
       ·
        rw [if_neg c23] at H
        have c23b0 : decide (0 < x6_2) = false := decide_eq_false c23
        clear c23
        (first | rw [c23b0] | (simp only [i64_w, i32_w]; rw [c23b0]) | skip)
        have H' := Aside0.mk H
        clear H
        go_wp2
        go_meet
        case rel => exact ⟨_, (x6_2), (x7_2), (x8_2), eA, eA, H', ⟨by have := HJ2.out; have := HK2.out; first | omega | exact Nat.le_refl _⟩, ⟨rA HO_8.out⟩, ⟨bkA BK314.out⟩, ⟨bkA BK315.out⟩, ⟨hbA HB⟩⟩
    case rest =>
     clear HC19
     try clear c1
     try clear c2
     try clear p2
     try clear c3
     try clear p3
     try clear q3
     try clear hx3
     try clear c6
     try clear p6
     try clear c7
     try clear c9
     try clear c12
     try clear c15
     try clear c16
     try clear c20
     try clear c23
     try clear c23b0
     try clear c25
     try clear c25b0
     try clear c26
     try clear c26b0
     try clear c27
     try clear c27b0
     try clear c27b1
     try clear c28
     try clear c28b0
     try clear c30
     try clear c32
     try clear p32
     try clear q32
     try clear hx32
     try clear c34
     try clear hcz10_0
     try clear hcz10_1
     try clear hcz13_0
     try clear hcz13_1
     try clear hcz17_0
     try clear hcz17_1
     try clear hcz21_0
     try clear hcz21_1
     try clear hcz31_0
     try clear hcz31_1
     try clear hcz35_0
     try clear hcz35_1
     try clear hfz10_0
     try clear hfz10_1
     try clear hfz13_0
     try clear hfz13_1
     try clear hfz17_0
     try clear hfz17_1
     try clear hfz21_0
     try clear hfz21_1
     try clear hfz31_0
     try clear hfz31_1
     try clear hfz35_0
     try clear hfz35_1
     try clear hx321_0
     try clear hx322_0
     try clear p2
     try clear p321
     try clear p322
     try clear q321
     try clear q322
     obtain ⟨kq, x6_18, x7_18, x8_18, rfl, rfl, HA, HJ18, HO_8, BK314, BK315, HB⟩ := hcut
     cases kq with
     | zero => exact absurd HA.out (by simp [spec_StackPush.j2])
     | succ kj18 =>
      have H := HA.out
      clear HA
      simp only [spec_StackPush.j2] at H
      obtain ⟨y326, hy326⟩ : ∃ y_ : List Int, y_ = (([] : List Int)) := ⟨_, rfl⟩
      replace H : (if 0 ≤ x6_18 then (if x6_18 ≤ (l0_0.length : Int) then (if y326.length + (l0_0.take (x6_18 : Int).toNat).length < 17592186044416 then ((some (y326 ++ (l0_0.take (x6_18 : Int).toNat) : List Int)).bind fun y330 => (if x6_18 ≤ (l0_1.length : Int) then ((spec_l06Copy.f kj18 (l0_1.take (x6_18 : Int).toNat)).bind fun t337 => (if y330.length < 17592186044416 then ((some (y330 ++ [x7_18] : List Int)).bind fun y341 => (if t337.length < 5864062014805 then ((some (t337 ++ [x8_18] : List (List Int))).bind fun y344 => ((spec_StackOk.f kj18 y341 y344).bind fun t347 => (if t347 = true then (some (y341, y344, true)) else (some (([] : List Int), ([] : List (List Int)), false))))) else (none))) else (none))) else (none))) else (none)) else (none)) else (none)) = some (r1, r2, r3) := by first | (rw [hy326]; with_reducible exact H) | (have H2_ := (Option.bind_some _ _).symm.trans H; rw [hy326]; with_reducible exact H2_) | (have H2_ := (Option.bind_some _ _).symm.trans H; with_reducible exact H2_) | with_reducible exact H | (rw [hy326]; exact H) | exact H
      have Ny326 := Aside0.mk hy326
      clear hy326
      by_cases c36 : 0 ≤ x6_18
      ·
       rw [if_pos c36] at H
       have c36b0 := eq_true c36
       have c36b1 : decide (0 ≤ x6_18) = true := decide_eq_true c36
       clear c36
       by_cases c37 : x6_18 ≤ (l0_0.length : Int)
       ·
        rw [if_pos c37] at H
        have c37b0 := eq_true c37
        have c37b1 : decide (x6_18 ≤ (l0_0.length : Int)) = true := decide_eq_true c37
        clear c37
        by_cases c38 : y326.length + (l0_0.take (x6_18 : Int).toNat).length < 17592186044416
        ·
         rw [if_pos c38] at H
         have LMc38 := Aside0.mk c38
         clear c38
         obtain ⟨y330, hy330⟩ : ∃ y_ : List Int, y_ = (y326 ++ (l0_0.take (x6_18 : Int).toNat)) := ⟨_, rfl⟩
         replace H : (if x6_18 ≤ (l0_1.length : Int) then ((spec_l06Copy.f kj18 (l0_1.take (x6_18 : Int).toNat)).bind fun t337 => (if y330.length < 17592186044416 then ((some (y330 ++ [x7_18] : List Int)).bind fun y341 => (if t337.length < 5864062014805 then ((some (t337 ++ [x8_18] : List (List Int))).bind fun y344 => ((spec_StackOk.f kj18 y341 y344).bind fun t347 => (if t347 = true then (some (y341, y344, true)) else (some (([] : List Int), ([] : List (List Int)), false))))) else (none))) else (none))) else (none)) = some (r1, r2, r3) := by first | (rw [hy330]; with_reducible exact H) | (have H2_ := (Option.bind_some _ _).symm.trans H; rw [hy330]; with_reducible exact H2_) | (have H2_ := (Option.bind_some _ _).symm.trans H; with_reducible exact H2_) | with_reducible exact H | (rw [hy330]; exact H) | exact H
         have Ny330 := Aside0.mk hy330
         clear hy330
         have c39b0 := eq_true (of_decide_eq_true asA : 0 ≤ x6_18)
         by_cases c40 : x6_18 ≤ (l0_1.length : Int)
         ·
          rw [if_pos c40] at H
          have c40b0 := eq_true c40
          have c40b1 : decide (x6_18 ≤ (l0_1.length : Int)) = true := decide_eq_true c40
          clear c40
          obtain ⟨y333, hy333⟩ : ∃ y_ : List (List Int), y_ = (l0_1.take (x6_18 : Int).toNat) := ⟨_, rfl⟩
          replace H : ((spec_l06Copy.f kj18 y333).bind fun t337 => (if y330.length < 17592186044416 then ((some (y330 ++ [x7_18] : List Int)).bind fun y341 => (if t337.length < 5864062014805 then ((some (t337 ++ [x8_18] : List (List Int))).bind fun y344 => ((spec_StackOk.f kj18 y341 y344).bind fun t347 => (if t347 = true then (some (y341, y344, true)) else (some (([] : List Int), ([] : List (List Int)), false))))) else (none))) else (none))) = some (r1, r2, r3) := by first | (rw [hy333]; with_reducible exact H) | (have H2_ := (Option.bind_some _ _).symm.trans H; rw [hy333]; with_reducible exact H2_) | (have H2_ := (Option.bind_some _ _).symm.trans H; with_reducible exact H2_) | with_reducible exact H | (rw [hy333]; exact H) | exact H
          have Ny333 := Aside0.mk hy333
          clear hy333
          replace H := Option.bind_eq_some_iff.mp H
          obtain ⟨t337, A410, H⟩ := H
          replace H : (if y330.length < 17592186044416 then ((some (y330 ++ [x7_18] : List Int)).bind fun y341 => (if t337.length < 5864062014805 then ((some (t337 ++ [x8_18] : List (List Int))).bind fun y344 => ((spec_StackOk.f kj18 y341 y344).bind fun t347 => (if t347 = true then (some (y341, y344, true)) else (some (([] : List Int), ([] : List (List Int)), false))))) else (none))) else (none)) = some (r1, r2, r3) := H
          have A41 := Aside0.mk A410
          clear A410
          by_cases c42 : y330.length < 17592186044416
          ·
           rw [if_pos c42] at H
           have LMc42 := Aside0.mk c42
           clear c42
           obtain ⟨y341, hy341⟩ : ∃ y_ : List Int, y_ = (y330 ++ [x7_18]) := ⟨_, rfl⟩
           replace H : (if t337.length < 5864062014805 then ((some (t337 ++ [x8_18] : List (List Int))).bind fun y344 => ((spec_StackOk.f kj18 y341 y344).bind fun t347 => (if t347 = true then (some (y341, y344, true)) else (some (([] : List Int), ([] : List (List Int)), false))))) else (none)) = some (r1, r2, r3) := by first | (rw [hy341]; with_reducible exact H) | (have H2_ := (Option.bind_some _ _).symm.trans H; rw [hy341]; with_reducible exact H2_) | (have H2_ := (Option.bind_some _ _).symm.trans H; with_reducible exact H2_) | with_reducible exact H | (rw [hy341]; exact H) | exact H
           have Ny341 := Aside0.mk hy341
           clear hy341
           by_cases c43 : t337.length < 5864062014805
           ·
            rw [if_pos c43] at H
            have LMc43 := Aside0.mk c43
            clear c43
            obtain ⟨y344, hy344⟩ : ∃ y_ : List (List Int), y_ = (t337 ++ [x8_18]) := ⟨_, rfl⟩
            replace H : ((spec_StackOk.f kj18 y341 y344).bind fun t347 => (if t347 = true then (some (y341, y344, true)) else (some (([] : List Int), ([] : List (List Int)), false)))) = some (r1, r2, r3) := by first | (rw [hy344]; with_reducible exact H) | (have H2_ := (Option.bind_some _ _).symm.trans H; rw [hy344]; with_reducible exact H2_) | (have H2_ := (Option.bind_some _ _).symm.trans H; with_reducible exact H2_) | with_reducible exact H | (rw [hy344]; exact H) | exact H
            have Ny344 := Aside0.mk hy344
            clear hy344
            replace H := Option.bind_eq_some_iff.mp H
            obtain ⟨t347, A440, H⟩ := H
            replace H : (if t347 = true then (some (y341, y344, true)) else (some (([] : List Int), ([] : List (List Int)), false))) = some (r1, r2, r3) := H
            have A44 := Aside0.mk A440
            clear A440
            by_cases c45 : t347 = true
            ·
             subst c45
             have H1 : (some (y341, y344, true)) = some (r1, r2, r3) := by rw [if_pos rfl] at H; exact H
             clear H
             have H := H1
             clear H1
             simp only [Option.some.injEq, Prod.mk.injEq] at H
             obtain ⟨rfl, rfl, rfl⟩ := H
             try go_wp2
             have n0_ := Aside0.mk (Kd.R_drew HO_8.out)
             have n1_ := Aside0.mk (blk_drew BK314.out)
             have n2_ := Aside0.mk (blk_drew BK315.out)
             have n3_ := Aside0.mk (below_drew1 HB.out)
             clear HO_8
             clear BK314
             clear BK315
             clear HB
             have HO_8 := n0_
             have BK314 := n1_
             have BK315 := n2_
             have HB := n3_
             clear n0_ n1_ n2_ n3_
             obtain ⟨i047, hi047, _, hsz47, _⟩ := info_parts info3
             obtain ⟨hcut47, hA47, hC47⟩ := print_take_of (P := Try.prog) (Value.int .i64) 0 22 3 .i64 Try.underlying22 hi047 hsz47 A0_0 c0_0 l0_0 x6_18 (of_decide_eq_true asA) (of_decide_eq_true asA) HC0_0.out
             have HR329 := Aside0.mk (Kd.C_of_reads (h1 := fun _ => rfl) (hA47 _ (Kd.reads_of_C HR0_0.out)))
             have HC329 := Aside0.mk hC47
             clear hA47 hC47 hi047 hsz47
             have q48 : (x6_18 : Int) ≤ ((l0_1.length : Int) : Int) := of_decide_eq_true asA
             obtain ⟨i048, hi048, _, hsz48, _⟩ := info_parts info23
             have hroom48 : l0_1.length ≤ c0_1 := HC0_1.out
             have hC48 : Kd.C (Kd.slice 5 (Kd.int .u8)) _ A0_1 l0_1.length l0_1 := HR0_1.out
             have hcut48 := cut_to (P := Try.prog) 38 23 .i64 Try.underlying38 hi048 A0_1 l0_1.length c0_1 x6_18 (of_decide_eq_true asA) q48 hroom48
             have hr48 := Kd.C_take (m := (x6_18 : Int).toNat) hC48 (by omega)
             have hy48 : y333.length = (x6_18 : Int).toNat := (by rw [Ny333.out, List.length_take]; omega)
             rw [← Ny333.out] at hr48
             rw [← hy48] at hcut48
             have HR336 := Aside0.mk hr48
             have HC336 := Aside0.mk (show y333.length ≤ c0_1 from by omega)
             clear hr48 hC48 hroom48 hi048 hsz48
             have KY48 := Aside0.mk hy48
             clear hy48
             replace q48 := eq_true q48
             refine start_ (n := 14) (S := fun w' => w'.cell? ⟨gb314, 0, none⟩ = some (.slice A0_0 l0_0.length c0_0) ∧ w'.cell? ⟨gb314, 1, none⟩ = some (.slice A0_1 l0_1.length c0_1)) (ds := []) #[false, false, false, false, false, false, false, false, false, false, false, false, false, false] (by kernel_rfl) rfl rfl ⟨(blk_cell BK314.out 0).trans rfl, (blk_cell BK314.out 1).trans rfl⟩ (fun hHeld => ?_); refine with_tabW spec_StackPush.tab10 spec_StackPush.bits10 (fun HT_ HW_ => ?_)
             generalize wc.drew = w46 at HO_8 BK314 BK315 HB HR329 HR336 hHeld ⊢
             refine pure_ (i := 1) (N := some 49) (v := ?_) (a' := ?_) #[false, true, false, false, false, false, false, false, false, false, false, false, false, false] rfl rfl (any_of HT_.out (by kernel_rfl)) (fun _ _ _ h => h) (Or.inl ⟨by rfl, ?_⟩) ?_ ?_
             rotate_left
             ·
              intro w'
              go_simp
              with_reducible rfl
             rotate_left
             ·
              simp only [Act.put, List.setIfInBounds_toArray, List.set_cons_zero, List.set_cons_succ, i64_w, i32_w]
              rfl
             refine pure_ (i := 3) (N := some 51) (v := ?_) (a' := ?_) #[false, true, false, true, false, false, false, false, false, false, false, false, false, false] rfl rfl (any_of HT_.out (by kernel_rfl)) (fun _ _ _ h => h) (Or.inl ⟨by rfl, ?_⟩) ?_ ?_
             rotate_left
             ·
              intro w'
              go_simp
              with_reducible rfl
             rotate_left
             ·
              simp only [Act.put, List.setIfInBounds_toArray, List.set_cons_zero, List.set_cons_succ, i64_w, i32_w]
              rfl
             refine pure_ (i := 6) (N := some 54) (v := ?_) (a' := ?_) #[false, true, false, true, false, false, true, false, false, false, false, false, false, false] rfl rfl (any_of HT_.out (by kernel_rfl)) (fun _ _ _ h => h) (Or.inl ⟨by rfl, ?_⟩) ?_ ?_
             rotate_left
             ·
              intro w'
              go_simp
              with_reducible rfl
             rotate_left
             ·
              simp only [Act.put, List.setIfInBounds_toArray, List.set_cons_zero, List.set_cons_succ, i64_w, i32_w]
              rfl
             refine pure_ (i := 8) (N := some 56) (v := ?_) (a' := ?_) #[false, true, false, true, false, false, true, false, true, false, false, false, false, false] rfl rfl (any_of HT_.out (by kernel_rfl)) (fun _ _ _ h => h) (Or.inl ⟨by rfl, ?_⟩) ?_ ?_
             rotate_left
             ·
              intro w'
              go_simp
              with_reducible rfl
             rotate_left
             ·
              simp only [Act.put, List.setIfInBounds_toArray, List.set_cons_zero, List.set_cons_succ, i64_w, i32_w]
              rfl
             refine take_ (i := 2) (N := some 50) (v := ?_) (a' := ?_) #[false, true, true, true, false, false, true, false, true, false, false, false, false, false] rfl rfl (take_ofW HT_.out HW_.out (by kernel_rfl)) (fun _ _ _ h => h) (Or.inl ⟨by rfl, ?_⟩) hHeld ?_ ?_
             rotate_left
             ·
              rintro w' ⟨s0, s1⟩
              go_simp
              with_reducible rfl
             rotate_left
             ·
              simp only [Act.put, List.setIfInBounds_toArray, List.set_cons_zero, List.set_cons_succ, i64_w, i32_w]
              rfl
             refine pure_ (i := 4) (N := some 52) (v := ?_) (a' := ?_) #[false, true, true, true, true, false, true, false, true, false, false, false, false, false] rfl rfl (any_of HT_.out (by kernel_rfl)) (fun _ _ _ h => h) (Or.inl ⟨by rfl, ?_⟩) ?_ ?_
             rotate_left
             ·
              intro w'
              go_simp
              with_reducible rfl
             rotate_left
             ·
              simp only [Act.put, List.setIfInBounds_toArray, List.set_cons_zero, List.set_cons_succ, i64_w, i32_w]
              rfl
             refine take_ (i := 7) (N := some 55) (v := ?_) (a' := ?_) #[false, true, true, true, true, false, true, true, true, false, false, false, false, false] rfl rfl (take_ofW HT_.out HW_.out (by kernel_rfl)) (fun _ _ _ h => h) (Or.inl ⟨by rfl, ?_⟩) hHeld ?_ ?_
             rotate_left
             ·
              rintro w' ⟨s0, s1⟩
              go_simp
              with_reducible rfl
             rotate_left
             ·
              simp only [Act.put, List.setIfInBounds_toArray, List.set_cons_zero, List.set_cons_succ, i64_w, i32_w]
              rfl
             refine pure_ (i := 9) (N := some 57) (v := ?_) (a' := ?_) #[false, true, true, true, true, false, true, true, true, true, false, false, false, false] rfl rfl (any_of HT_.out (by kernel_rfl)) (fun _ _ _ h => h) (Or.inl ⟨by rfl, ?_⟩) ?_ ?_
             rotate_left
             ·
              intro w'
              go_simp
              with_reducible rfl
             rotate_left
             ·
              simp only [Act.put, List.setIfInBounds_toArray, List.set_cons_zero, List.set_cons_succ, i64_w, i32_w]
              rfl
             refine join_ (σ := Value × Value × Value × Nat) 1 #[true, true, true, true, true, true, true, true, true, true, true, true, true, false] (fun s_ => [(48, s_.1), (53, s_.2.1), (58, s_.2.2.1), (9, .pointer (some ⟨s_.2.2.2, 0, none⟩)), (59, .agg #[s_.2.1, s_.2.2.1])]) (fun s_ w' => (w'.cell? ⟨gb314, 0, none⟩ = some (.slice A0_0 l0_0.length c0_0) ∧ w'.cell? ⟨gb314, 1, none⟩ = some (.slice A0_1 l0_1.length c0_1)) ∧ (Kd.R (Kd.int .i64) 3 w' w.heap.size (fun _ => True) s_.2.1 y330) ∧ (Kd.S (Kd.slice 5 (Kd.int .u8)) 23 w' w.heap.size (fun k_ => some k_ ≠ (u8 : Value).ownBlock) s_.2.2.1 t337) ∧ (Kd.R (Kd.int .u8) 5 w' w.heap.size (fun _ => True) u8 x8_18) ∧ (w'.heap[gb314]? = some (.cells #[.slice A0_0 l0_0.length c0_0, .slice A0_1 l0_1.length c0_1] 50 (0, 0))) ∧ (w'.heap[gb315]? = some (.cells #[.slice none 0 0, .slice none 0 0] 50 (0, 0))) ∧ (w'.heap[s_.2.2.2]? = some (.cells #[.slice none 0 0, .slice none 0 0] 50 (0, 0))) ∧ (w.heap.size ≤ s_.2.2.2) ∧ (w.heap.size ≤ s_.2.2.2) ∧ (gb314 ≠ s_.2.2.2) ∧ (s_.2.2.2 ≠ gb314) ∧ (gb315 ≠ s_.2.2.2) ∧ (s_.2.2.2 ≠ gb315) ∧ (Below w.heap.size w w')) ?_ ?_
             rotate_left
             ·
              intro hCont
              refine two_ (i := 0) (j := 12) (Ni := some 48) (Nj := some 9) #[true, true, true, true, true, false, true, true, true, true, false, false, false, false] #[false, true, true, true, true, false, true, true, true, true, false, false, true, false] rfl rfl rfl rfl (two_of HT_.out (by kernel_rfl)) (by decide) (by decide) (fun K hK => ?_) (fun K hK => ?_)
              ·
               skip
               refine Kd.R_lit_step (Kd.int .i64) _ 3 ?hg (N := 48) ?hd (xs := ([] : List Int)) (inner := []) (ok := fun _ => True) (okp := fun _ => True) ?hr ?hp (fun _ hk => hk) trivial (Below.refl _ _) (Nat.le_refl _) (by simp) ?_; (case hd => rfl); (case hg => rfl); (case hr => first | (go_simp; done) | (go_simp; rfl)); (case hp => exact (Reps.none _ _))
               intro v327 w49 ho50 hb hg_ hnew_
               clear hg_ hnew_
               (first | rw [← Ny326.out] at ho50 | (simp only [Int.reduceToNat] at ho50; rw [← Ny326.out] at ho50))
               have n0_ := Aside0.mk (Kd.R_below (rA HO_8.out) hb)
               have n1_ := Aside0.mk (Kd.R_lower ho50 (below_size (hbA HB)))
               have n2_ := Aside0.mk (blk_below (g := gb314) (o := .cells #[.slice A0_0 l0_0.length c0_0, .slice A0_1 l0_1.length c0_1] 50 (0, 0)) (bkA BK314.out) hb)
               have n3_ := Aside0.mk (blk_below (g := gb315) (o := .cells #[.slice none 0 0, .slice none 0 0] 50 (0, 0)) (bkA BK315.out) hb)
               have n4_ := Aside0.mk (below_step (hbA HB) hb)
               clear HO_8
               clear BK314
               clear BK315
               clear HB
               have HO_8 := n0_
               have HO328 := n1_
               have BK314 := n2_
               have BK315 := n3_
               have HB := n4_
               clear n0_ n1_ n2_ n3_ n4_
               clear hb ho50
               refine hK.out _ _ ⟨(blk_cell BK314.out 0).trans rfl, (blk_cell BK314.out 1).trans rfl⟩ (fun hHeld => ?_)
               clear hK K
               refine norm_ (a' := ?_) ?_ ?_
               rotate_left
               ·
                show Act.put _ (some 48) _ = _
                simp only [Act.put, List.setIfInBounds_toArray, List.set_cons_zero, List.set_cons_succ, i64_w, i32_w]
                rfl
               refine two_ (i := 5) (j := 12) (Ni := some 53) (Nj := some 9) #[true, true, true, true, true, true, true, true, true, true, false, false, false, false] #[true, true, true, true, true, false, true, true, true, true, false, false, true, false] rfl rfl rfl rfl (two_of HT_.out (by kernel_rfl)) (by decide) (by decide) (fun K hK => ?_) (fun K hK => ?_)
               ·
                skip
                refine Kd.R_append_rows_step (Kd.int .i64) (w0 := w) w.heap.size (by rfl) (.tmp 48) (.tmp 52) 22 3 (.int .i64 0) 8 rfl Try.underlying22 info3 rfl (by decide) (by omega) v327 y326 (l0_0.take (x6_18 : Int).toNat) _ _ _ (fun _ => True) (fun _ => False) rfl rfl ?aO ?aR (fun _ _ h => h) (fun _ h => h.elim) ?aF ?aB ?aS ?aL ?_
                (case aR => first | (have q_ := Kd.C_below HR329.out (hbA HB); rw [show (l0_0.take (x6_18 : Int).toNat).length = x6_18.toNat from (by rw [List.length_take]; have h_ : (x6_18 : Int) ≤ (l0_0.length : Int) := of_decide_eq_true asA; omega)] at q_; exact q_) | (rw [← show (l0_0.take (x6_18 : Int).toNat).length = x6_18.toNat from (by rw [List.length_take]; have h_ : (x6_18 : Int) ≤ (l0_0.length : Int) := of_decide_eq_true asA; omega)]; exact cA (Kd.C_below HR329.out HB.out)) | (exact cA (Kd.C_below HR329.out HB.out)))
                (case aB => exact (hbA HB))
                (case aF => exact (fun _ _ => trivial))
                (case aO => exact (rA HO328.out))
                (case aS => exact (below_size (hbA HB)))
                (case aL => have := LMc38.out; have hlx_ := (show (l0_0.take (x6_18 : Int).toNat).length = x6_18.toNat from (by rw [List.length_take]; have h_ : (x6_18 : Int) ≤ (l0_0.length : Int) := of_decide_eq_true asA; omega)); omega)
                intro v331 w51 ho hb hg hat
                rw [← Ny330.out] at ho
                have n0_ := Aside0.mk (Kd.R_over' (rA HO_8.out) (Kd.R_typed (rA HO328.out)) (by decide) hg)
                have n1_ := Aside0.mk (blk_grown (g := gb314) (o := .cells #[.slice A0_0 l0_0.length c0_0, .slice A0_1 l0_1.length c0_1] 50 (0, 0)) (bkA BK314.out) hg (Kd.R_ne HO328.out BK314.out (by decide)))
                have n2_ := Aside0.mk (blk_grown (g := gb315) (o := .cells #[.slice none 0 0, .slice none 0 0] 50 (0, 0)) (bkA BK315.out) hg (Kd.R_ne HO328.out BK315.out (by decide)))
                have n3_ := Aside0.mk (hb)
                have n4_ := Aside0.mk (ho)
                clear HO_8
                clear BK314
                clear BK315
                clear HB
                clear HO328
                have HO_8 := n0_
                have BK314 := n1_
                have BK315 := n2_
                have HB := n3_
                have HO332 := n4_
                clear n0_ n1_ n2_ n3_ n4_
                clear ho hb hg hat
                refine hK.out _ _ ⟨(blk_cell BK314.out 0).trans rfl, (blk_cell BK314.out 1).trans rfl⟩ (fun hHeld => ?_)
                clear hK K
                refine norm_ (a' := ?_) ?_ ?_
                rotate_left
                ·
                 show Act.put _ (some 53) _ = _
                 simp only [Act.put, List.setIfInBounds_toArray, List.set_cons_zero, List.set_cons_succ, i64_w, i32_w]
                 rfl
                refine two_ (i := 10) (j := 12) (Ni := some 58) (Nj := some 9) #[true, true, true, true, true, true, true, true, true, true, true, false, false, false] #[true, true, true, true, true, true, true, true, true, true, false, false, true, false] rfl rfl rfl rfl (two_of HT_.out (by kernel_rfl)) (by decide) (by decide) (fun K hK => ?_) (fun K hK => ?_)
                ·
                 skip
                 refine goes_ Try.func95 (by kernel_rfl) rfl #[.slice A0_1 y333.length c0_1] (by rfl) rfl rfl mtA ?_
                 with_reducible refine (spec_l06Copy.calls kj18 _ _ y333 t337 _ ?side1 ?side2 A41.out).mono ?_
                 (case side1 => exact cA (Kd.C_below HR336.out HB.out))
                 (case side2 => exact HC336.out)
                 rintro e w52 ⟨v338, rfl, ho0, hb⟩
                 refine ⟨_, rfl, ?_⟩
                 have n0_ := Aside0.mk (Kd.R_below (rA HO_8.out) hb)
                 have n1_ := Aside0.mk (Kd.R_below (rA HO332.out) hb)
                 have n2_ := Aside0.mk (Kd.S_lower (Kd.S_new' ho0 (Kd.R_lt (rA HO_8.out))) (below_size (hbA HB)))
                 have n3_ := Aside0.mk (blk_below (g := gb314) (o := .cells #[.slice A0_0 l0_0.length c0_0, .slice A0_1 l0_1.length c0_1] 50 (0, 0)) (bkA BK314.out) hb)
                 have n4_ := Aside0.mk (blk_below (g := gb315) (o := .cells #[.slice none 0 0, .slice none 0 0] 50 (0, 0)) (bkA BK315.out) hb)
                 have n5_ := Aside0.mk (below_step (hbA HB) hb)
                 clear HO_8
                 clear HO332
                 clear BK314
                 clear BK315
                 clear HB
                 have HO_8 := n0_
                 have HO332 := n1_
                 have HO339 := n2_
                 have BK314 := n3_
                 have BK315 := n4_
                 have HB := n5_
                 clear n0_ n1_ n2_ n3_ n4_ n5_
                 (try clear hb)
                 (try clear hb2)
                 (try clear hk)
                 (try clear hi)
                 (try clear ho0)
                 obtain ⟨Ao53, co53, eo53⟩ := Kd.S_slice HO339.out
                 (first | subst eo53 | (injection eo53 with f1_ f2_ f3_; have f4_ := f1_.symm; have f5_ := f3_.symm; clear f1_ f2_ f3_; subst f4_; subst f5_))
                 obtain ⟨Ao54, co54, eo54⟩ := Kd.R_slice HO332.out
                 (first | subst eo54 | (injection eo54 with f1_ f2_ f3_; have f4_ := f1_.symm; have f5_ := f3_.symm; clear f1_ f2_ f3_; subst f4_; subst f5_))
                 refine hK.out _ _ ⟨(blk_cell BK314.out 0).trans rfl, (blk_cell BK314.out 1).trans rfl⟩ (fun hHeld => ?_)
                 clear hK K
                 refine norm_ (a' := ?_) ?_ ?_
                 rotate_left
                 ·
                  show Act.put _ (some 58) _ = _
                  simp only [Act.put, List.setIfInBounds_toArray, List.set_cons_zero, List.set_cons_succ, i64_w, i32_w]
                  rfl
                 refine pure_ (i := 11) (N := some 59) (v := ?_) (a' := ?_) #[true, true, true, true, true, true, true, true, true, true, true, true, false, false] rfl rfl (any_of HT_.out (by kernel_rfl)) (fun _ _ _ h => h) (Or.inl ⟨by rfl, ?_⟩) ?_ ?_
                 rotate_left
                 ·
                  intro w'
                  go_simp
                  with_reducible rfl
                 rotate_left
                 ·
                  simp only [Act.put, List.setIfInBounds_toArray, List.set_cons_zero, List.set_cons_succ, i64_w, i32_w]
                  rfl
                 refine one_ (i := 12) (N := some 9) #[true, true, true, true, true, true, true, true, true, true, true, true, true, false] rfl rfl (one_of HT_.out (by kernel_rfl)) (by decide) (fun K hK => ?_)
                 refine box_step ?hg (N := 9) ?hd (cs := #[.slice none 0 0, .slice none 0 0]) (t := 50) ?hr ?_; (case hd => rfl); (case hg => rfl); (case hr => first | (go_simp; done) | (go_simp; rfl))
                 intro gb340 hg w55 hbox hb
                 have n0_ := Aside0.mk (Kd.R_below (rA HO_8.out) hb)
                 have n1_ := Aside0.mk (Kd.R_below (rA HO332.out) hb)
                 have n2_ := Aside0.mk (Kd.S_below (sA HO339.out) hb)
                 have n3_ := Aside0.mk (blk_below (g := gb314) (o := .cells #[.slice A0_0 l0_0.length c0_0, .slice A0_1 l0_1.length c0_1] 50 (0, 0)) (bkA BK314.out) hb)
                 have n4_ := Aside0.mk (blk_below (g := gb315) (o := .cells #[.slice none 0 0, .slice none 0 0] 50 (0, 0)) (bkA BK315.out) hb)
                 have n5_ := Aside0.mk (below_step (hbA HB) hb)
                 have n6_ := Aside0.mk (hbox)
                 have n7_ := Aside0.mk ((by rw [hg]; exact (below_size (hbA HB)) : w.heap.size ≤ gb340))
                 have n8_ := Aside0.mk ((by rw [hg]; exact (below_size (hbA HB)) : w.heap.size ≤ gb340))
                 have n9_ := Aside0.mk ((by rw [hg]; exact Nat.ne_of_lt (blk_lt (g := gb314) (o := .cells #[.slice A0_0 l0_0.length c0_0, .slice A0_1 l0_1.length c0_1] 50 (0, 0)) (bkA BK314.out)) : gb314 ≠ gb340))
                 have n10_ := Aside0.mk ((by rw [hg]; exact Nat.ne_of_gt (blk_lt (g := gb314) (o := .cells #[.slice A0_0 l0_0.length c0_0, .slice A0_1 l0_1.length c0_1] 50 (0, 0)) (bkA BK314.out)) : gb340 ≠ gb314))
                 have n11_ := Aside0.mk ((by rw [hg]; exact Nat.ne_of_lt (blk_lt (g := gb315) (o := .cells #[.slice none 0 0, .slice none 0 0] 50 (0, 0)) (bkA BK315.out)) : gb315 ≠ gb340))
                 have n12_ := Aside0.mk ((by rw [hg]; exact Nat.ne_of_gt (blk_lt (g := gb315) (o := .cells #[.slice none 0 0, .slice none 0 0] 50 (0, 0)) (bkA BK315.out)) : gb340 ≠ gb315))
                 clear HO_8
                 clear HO332
                 clear HO339
                 clear BK314
                 clear BK315
                 clear HB
                 have HO_8 := n0_
                 have HO332 := n1_
                 have HO339 := n2_
                 have BK314 := n3_
                 have BK315 := n4_
                 have HB := n5_
                 have BK340 := n6_
                 have GW340 := n7_
                 have GE340 := n8_
                 have NB314_340 := n9_
                 have NB340_314 := n10_
                 have NB315_340 := n11_
                 have NB340_315 := n12_
                 clear n0_ n1_ n2_ n3_ n4_ n5_ n6_ n7_ n8_ n9_ n10_ n11_ n12_
                 clear hb hbox hg
                 refine hK.out _ _ ⟨(blk_cell BK314.out 0).trans rfl, (blk_cell BK314.out 1).trans rfl⟩ (fun hHeld => ?_)
                 clear hK K
                 refine norm_ (a' := ?_) ?_ ?_
                 rotate_left
                 ·
                  show Act.put _ (some 9) _ = _
                  simp only [Act.put, List.setIfInBounds_toArray, List.set_cons_zero, List.set_cons_succ, i64_w, i32_w]
                  rfl
                 exact norm_ (by simp only [putAll, Act.put, List.setIfInBounds_toArray, List.set_cons_zero, List.set_cons_succ]) (hCont (v327, .slice Ao54 y330.length co54, .slice Ao53 t337.length co53, gb340) _ ⟨hHeld, (rA HO332.out), (by (with_reducible repeat (first | apply Kd.S_alloc | apply Kd.S_drewN | apply Kd.S_drew)); exact Kd.S_mono HO339.out (fun _ hk => hk.2)), (rA HO_8.out), (bkA BK314.out), (bkA BK315.out), (bkA BK340.out), GW340.out, GE340.out, NB314_340.out, NB340_314.out, NB315_340.out, NB340_315.out, (hbA HB)⟩)
                ·
                 skip
                 refine box_step ?hg (N := 9) ?hd (cs := #[.slice none 0 0, .slice none 0 0]) (t := 50) ?hr ?_; (case hd => rfl); (case hg => rfl); (case hr => first | (go_simp; done) | (go_simp; rfl))
                 intro gb340 hg w52 hbox hb
                 have n0_ := Aside0.mk (Kd.R_below (rA HO_8.out) hb)
                 have n1_ := Aside0.mk (Kd.R_below (rA HO332.out) hb)
                 have n2_ := Aside0.mk (blk_below (g := gb314) (o := .cells #[.slice A0_0 l0_0.length c0_0, .slice A0_1 l0_1.length c0_1] 50 (0, 0)) (bkA BK314.out) hb)
                 have n3_ := Aside0.mk (blk_below (g := gb315) (o := .cells #[.slice none 0 0, .slice none 0 0] 50 (0, 0)) (bkA BK315.out) hb)
                 have n4_ := Aside0.mk (below_step (hbA HB) hb)
                 have n5_ := Aside0.mk (hbox)
                 have n6_ := Aside0.mk ((by rw [hg]; exact (below_size (hbA HB)) : w.heap.size ≤ gb340))
                 have n7_ := Aside0.mk ((by rw [hg]; exact (below_size (hbA HB)) : w.heap.size ≤ gb340))
                 have n8_ := Aside0.mk ((by rw [hg]; exact Nat.ne_of_lt (blk_lt (g := gb314) (o := .cells #[.slice A0_0 l0_0.length c0_0, .slice A0_1 l0_1.length c0_1] 50 (0, 0)) (bkA BK314.out)) : gb314 ≠ gb340))
                 have n9_ := Aside0.mk ((by rw [hg]; exact Nat.ne_of_gt (blk_lt (g := gb314) (o := .cells #[.slice A0_0 l0_0.length c0_0, .slice A0_1 l0_1.length c0_1] 50 (0, 0)) (bkA BK314.out)) : gb340 ≠ gb314))
                 have n10_ := Aside0.mk ((by rw [hg]; exact Nat.ne_of_lt (blk_lt (g := gb315) (o := .cells #[.slice none 0 0, .slice none 0 0] 50 (0, 0)) (bkA BK315.out)) : gb315 ≠ gb340))
                 have n11_ := Aside0.mk ((by rw [hg]; exact Nat.ne_of_gt (blk_lt (g := gb315) (o := .cells #[.slice none 0 0, .slice none 0 0] 50 (0, 0)) (bkA BK315.out)) : gb340 ≠ gb315))
                 clear HO_8
                 clear HO332
                 clear BK314
                 clear BK315
                 clear HB
                 have HO_8 := n0_
                 have HO332 := n1_
                 have BK314 := n2_
                 have BK315 := n3_
                 have HB := n4_
                 have BK340 := n5_
                 have GW340 := n6_
                 have GE340 := n7_
                 have NB314_340 := n8_
                 have NB340_314 := n9_
                 have NB315_340 := n10_
                 have NB340_315 := n11_
                 clear n0_ n1_ n2_ n3_ n4_ n5_ n6_ n7_ n8_ n9_ n10_ n11_
                 clear hb hbox hg
                 refine hK.out _ _ ⟨(blk_cell BK314.out 0).trans rfl, (blk_cell BK314.out 1).trans rfl⟩ (fun hHeld => ?_)
                 clear hK K
                 refine norm_ (a' := ?_) ?_ ?_
                 rotate_left
                 ·
                  show Act.put _ (some 9) _ = _
                  simp only [Act.put, List.setIfInBounds_toArray, List.set_cons_zero, List.set_cons_succ, i64_w, i32_w]
                  rfl
                 refine one_ (i := 10) (N := some 58) #[true, true, true, true, true, true, true, true, true, true, true, false, true, false] rfl rfl (one_of HT_.out (by kernel_rfl)) (by decide) (fun K hK => ?_)
                 refine goes_ Try.func95 (by kernel_rfl) rfl #[.slice A0_1 y333.length c0_1] (by rfl) rfl rfl mtA ?_
                 with_reducible refine (spec_l06Copy.calls kj18 _ _ y333 t337 _ ?side1 ?side2 A41.out).mono ?_
                 (case side1 => exact cA (Kd.C_below HR336.out HB.out))
                 (case side2 => exact HC336.out)
                 rintro e w53 ⟨v338, rfl, ho0, hb⟩
                 refine ⟨_, rfl, ?_⟩
                 have n0_ := Aside0.mk (Kd.R_below (rA HO_8.out) hb)
                 have n1_ := Aside0.mk (Kd.R_below (rA HO332.out) hb)
                 have n2_ := Aside0.mk (Kd.S_lower (Kd.S_new' ho0 (Kd.R_lt (rA HO_8.out))) (below_size (hbA HB)))
                 have n3_ := Aside0.mk (blk_below (g := gb314) (o := .cells #[.slice A0_0 l0_0.length c0_0, .slice A0_1 l0_1.length c0_1] 50 (0, 0)) (bkA BK314.out) hb)
                 have n4_ := Aside0.mk (blk_below (g := gb315) (o := .cells #[.slice none 0 0, .slice none 0 0] 50 (0, 0)) (bkA BK315.out) hb)
                 have n5_ := Aside0.mk (blk_below (g := gb340) (o := .cells #[.slice none 0 0, .slice none 0 0] 50 (0, 0)) (bkA BK340.out) hb)
                 have n6_ := Aside0.mk (below_step (hbA HB) hb)
                 clear HO_8
                 clear HO332
                 clear BK314
                 clear BK315
                 clear BK340
                 clear HB
                 have HO_8 := n0_
                 have HO332 := n1_
                 have HO339 := n2_
                 have BK314 := n3_
                 have BK315 := n4_
                 have BK340 := n5_
                 have HB := n6_
                 clear n0_ n1_ n2_ n3_ n4_ n5_ n6_
                 (try clear hb)
                 (try clear hb2)
                 (try clear hk)
                 (try clear hi)
                 (try clear ho0)
                 obtain ⟨Ao54, co54, eo54⟩ := Kd.S_slice HO339.out
                 (first | subst eo54 | (injection eo54 with f1_ f2_ f3_; have f4_ := f1_.symm; have f5_ := f3_.symm; clear f1_ f2_ f3_; subst f4_; subst f5_))
                 obtain ⟨Ao55, co55, eo55⟩ := Kd.R_slice HO332.out
                 (first | subst eo55 | (injection eo55 with f1_ f2_ f3_; have f4_ := f1_.symm; have f5_ := f3_.symm; clear f1_ f2_ f3_; subst f4_; subst f5_))
                 refine hK.out _ _ ⟨(blk_cell BK314.out 0).trans rfl, (blk_cell BK314.out 1).trans rfl⟩ (fun hHeld => ?_)
                 clear hK K
                 refine norm_ (a' := ?_) ?_ ?_
                 rotate_left
                 ·
                  show Act.put _ (some 58) _ = _
                  simp only [Act.put, List.setIfInBounds_toArray, List.set_cons_zero, List.set_cons_succ, i64_w, i32_w]
                  rfl
                 refine pure_ (i := 11) (N := some 59) (v := ?_) (a' := ?_) #[true, true, true, true, true, true, true, true, true, true, true, true, true, false] rfl rfl (any_of HT_.out (by kernel_rfl)) (fun _ _ _ h => h) (Or.inl ⟨by rfl, ?_⟩) ?_ ?_
                 rotate_left
                 ·
                  intro w'
                  go_simp
                  with_reducible rfl
                 rotate_left
                 ·
                  simp only [Act.put, List.setIfInBounds_toArray, List.set_cons_zero, List.set_cons_succ, i64_w, i32_w]
                  rfl
                 exact norm_ (by simp only [putAll, Act.put, List.setIfInBounds_toArray, List.set_cons_zero, List.set_cons_succ]) (hCont (v327, .slice Ao55 y330.length co55, .slice Ao54 t337.length co54, gb340) _ ⟨hHeld, (rA HO332.out), (by (with_reducible repeat (first | apply Kd.S_alloc | apply Kd.S_drewN | apply Kd.S_drew)); exact Kd.S_mono HO339.out (fun _ hk => hk.2)), (rA HO_8.out), (bkA BK314.out), (bkA BK315.out), (bkA BK340.out), GW340.out, GE340.out, NB314_340.out, NB340_314.out, NB315_340.out, NB340_315.out, (hbA HB)⟩)
               ·
                skip
                refine box_step ?hg (N := 9) ?hd (cs := #[.slice none 0 0, .slice none 0 0]) (t := 50) ?hr ?_; (case hd => rfl); (case hg => rfl); (case hr => first | (go_simp; done) | (go_simp; rfl))
                intro gb340 hg w51 hbox hb
                have n0_ := Aside0.mk (Kd.R_below (rA HO_8.out) hb)
                have n1_ := Aside0.mk (Kd.R_below (rA HO328.out) hb)
                have n2_ := Aside0.mk (blk_below (g := gb314) (o := .cells #[.slice A0_0 l0_0.length c0_0, .slice A0_1 l0_1.length c0_1] 50 (0, 0)) (bkA BK314.out) hb)
                have n3_ := Aside0.mk (blk_below (g := gb315) (o := .cells #[.slice none 0 0, .slice none 0 0] 50 (0, 0)) (bkA BK315.out) hb)
                have n4_ := Aside0.mk (below_step (hbA HB) hb)
                have n5_ := Aside0.mk (hbox)
                have n6_ := Aside0.mk ((by rw [hg]; exact (below_size (hbA HB)) : w.heap.size ≤ gb340))
                have n7_ := Aside0.mk ((by rw [hg]; exact (below_size (hbA HB)) : w.heap.size ≤ gb340))
                have n8_ := Aside0.mk ((by rw [hg]; exact Nat.ne_of_lt (blk_lt (g := gb314) (o := .cells #[.slice A0_0 l0_0.length c0_0, .slice A0_1 l0_1.length c0_1] 50 (0, 0)) (bkA BK314.out)) : gb314 ≠ gb340))
                have n9_ := Aside0.mk ((by rw [hg]; exact Nat.ne_of_gt (blk_lt (g := gb314) (o := .cells #[.slice A0_0 l0_0.length c0_0, .slice A0_1 l0_1.length c0_1] 50 (0, 0)) (bkA BK314.out)) : gb340 ≠ gb314))
                have n10_ := Aside0.mk ((by rw [hg]; exact Nat.ne_of_lt (blk_lt (g := gb315) (o := .cells #[.slice none 0 0, .slice none 0 0] 50 (0, 0)) (bkA BK315.out)) : gb315 ≠ gb340))
                have n11_ := Aside0.mk ((by rw [hg]; exact Nat.ne_of_gt (blk_lt (g := gb315) (o := .cells #[.slice none 0 0, .slice none 0 0] 50 (0, 0)) (bkA BK315.out)) : gb340 ≠ gb315))
                clear HO_8
                clear HO328
                clear BK314
                clear BK315
                clear HB
                have HO_8 := n0_
                have HO328 := n1_
                have BK314 := n2_
                have BK315 := n3_
                have HB := n4_
                have BK340 := n5_
                have GW340 := n6_
                have GE340 := n7_
                have NB314_340 := n8_
                have NB340_314 := n9_
                have NB315_340 := n10_
                have NB340_315 := n11_
                clear n0_ n1_ n2_ n3_ n4_ n5_ n6_ n7_ n8_ n9_ n10_ n11_
                clear hb hbox hg
                refine hK.out _ _ ⟨(blk_cell BK314.out 0).trans rfl, (blk_cell BK314.out 1).trans rfl⟩ (fun hHeld => ?_)
                clear hK K
                refine norm_ (a' := ?_) ?_ ?_
                rotate_left
                ·
                 show Act.put _ (some 9) _ = _
                 simp only [Act.put, List.setIfInBounds_toArray, List.set_cons_zero, List.set_cons_succ, i64_w, i32_w]
                 rfl
                refine one_ (i := 5) (N := some 53) #[true, true, true, true, true, true, true, true, true, true, false, false, true, false] rfl rfl (one_of HT_.out (by kernel_rfl)) (by decide) (fun K hK => ?_)
                refine Kd.R_append_rows_step (Kd.int .i64) (w0 := w) w.heap.size (by rfl) (.tmp 48) (.tmp 52) 22 3 (.int .i64 0) 8 rfl Try.underlying22 info3 rfl (by decide) (by omega) v327 y326 (l0_0.take (x6_18 : Int).toNat) _ _ _ (fun _ => True) (fun _ => False) rfl rfl ?aO ?aR (fun _ _ h => h) (fun _ h => h.elim) ?aF ?aB ?aS ?aL ?_
                (case aR => first | (have q_ := Kd.C_below HR329.out (hbA HB); rw [show (l0_0.take (x6_18 : Int).toNat).length = x6_18.toNat from (by rw [List.length_take]; have h_ : (x6_18 : Int) ≤ (l0_0.length : Int) := of_decide_eq_true asA; omega)] at q_; exact q_) | (rw [← show (l0_0.take (x6_18 : Int).toNat).length = x6_18.toNat from (by rw [List.length_take]; have h_ : (x6_18 : Int) ≤ (l0_0.length : Int) := of_decide_eq_true asA; omega)]; exact cA (Kd.C_below HR329.out HB.out)) | (exact cA (Kd.C_below HR329.out HB.out)))
                (case aB => exact (hbA HB))
                (case aF => exact (fun _ _ => trivial))
                (case aO => exact (rA HO328.out))
                (case aS => exact (below_size (hbA HB)))
                (case aL => have := LMc38.out; have hlx_ := (show (l0_0.take (x6_18 : Int).toNat).length = x6_18.toNat from (by rw [List.length_take]; have h_ : (x6_18 : Int) ≤ (l0_0.length : Int) := of_decide_eq_true asA; omega)); omega)
                intro v331 w52 ho hb hg hat
                rw [← Ny330.out] at ho
                have n0_ := Aside0.mk (Kd.R_over' (rA HO_8.out) (Kd.R_typed (rA HO328.out)) (by decide) hg)
                have n1_ := Aside0.mk (blk_grown (g := gb314) (o := .cells #[.slice A0_0 l0_0.length c0_0, .slice A0_1 l0_1.length c0_1] 50 (0, 0)) (bkA BK314.out) hg (Kd.R_ne HO328.out BK314.out (by decide)))
                have n2_ := Aside0.mk (blk_grown (g := gb315) (o := .cells #[.slice none 0 0, .slice none 0 0] 50 (0, 0)) (bkA BK315.out) hg (Kd.R_ne HO328.out BK315.out (by decide)))
                have n3_ := Aside0.mk (blk_grown (g := gb340) (o := .cells #[.slice none 0 0, .slice none 0 0] 50 (0, 0)) (bkA BK340.out) hg (Kd.R_ne HO328.out BK340.out (by decide)))
                have n4_ := Aside0.mk (hb)
                have n5_ := Aside0.mk (ho)
                clear HO_8
                clear BK314
                clear BK315
                clear BK340
                clear HB
                clear HO328
                have HO_8 := n0_
                have BK314 := n1_
                have BK315 := n2_
                have BK340 := n3_
                have HB := n4_
                have HO332 := n5_
                clear n0_ n1_ n2_ n3_ n4_ n5_
                clear ho hb hg hat
                refine hK.out _ _ ⟨(blk_cell BK314.out 0).trans rfl, (blk_cell BK314.out 1).trans rfl⟩ (fun hHeld => ?_)
                clear hK K
                refine norm_ (a' := ?_) ?_ ?_
                rotate_left
                ·
                 show Act.put _ (some 53) _ = _
                 simp only [Act.put, List.setIfInBounds_toArray, List.set_cons_zero, List.set_cons_succ, i64_w, i32_w]
                 rfl
                refine one_ (i := 10) (N := some 58) #[true, true, true, true, true, true, true, true, true, true, true, false, true, false] rfl rfl (one_of HT_.out (by kernel_rfl)) (by decide) (fun K hK => ?_)
                refine goes_ Try.func95 (by kernel_rfl) rfl #[.slice A0_1 y333.length c0_1] (by rfl) rfl rfl mtA ?_
                with_reducible refine (spec_l06Copy.calls kj18 _ _ y333 t337 _ ?side1 ?side2 A41.out).mono ?_
                (case side1 => exact cA (Kd.C_below HR336.out HB.out))
                (case side2 => exact HC336.out)
                rintro e w53 ⟨v338, rfl, ho0, hb⟩
                refine ⟨_, rfl, ?_⟩
                have n0_ := Aside0.mk (Kd.R_below (rA HO_8.out) hb)
                have n1_ := Aside0.mk (Kd.R_below (rA HO332.out) hb)
                have n2_ := Aside0.mk (Kd.S_lower (Kd.S_new' ho0 (Kd.R_lt (rA HO_8.out))) (below_size (hbA HB)))
                have n3_ := Aside0.mk (blk_below (g := gb314) (o := .cells #[.slice A0_0 l0_0.length c0_0, .slice A0_1 l0_1.length c0_1] 50 (0, 0)) (bkA BK314.out) hb)
                have n4_ := Aside0.mk (blk_below (g := gb315) (o := .cells #[.slice none 0 0, .slice none 0 0] 50 (0, 0)) (bkA BK315.out) hb)
                have n5_ := Aside0.mk (blk_below (g := gb340) (o := .cells #[.slice none 0 0, .slice none 0 0] 50 (0, 0)) (bkA BK340.out) hb)
                have n6_ := Aside0.mk (below_step (hbA HB) hb)
                clear HO_8
                clear HO332
                clear BK314
                clear BK315
                clear BK340
                clear HB
                have HO_8 := n0_
                have HO332 := n1_
                have HO339 := n2_
                have BK314 := n3_
                have BK315 := n4_
                have BK340 := n5_
                have HB := n6_
                clear n0_ n1_ n2_ n3_ n4_ n5_ n6_
                (try clear hb)
                (try clear hb2)
                (try clear hk)
                (try clear hi)
                (try clear ho0)
                obtain ⟨Ao54, co54, eo54⟩ := Kd.S_slice HO339.out
                (first | subst eo54 | (injection eo54 with f1_ f2_ f3_; have f4_ := f1_.symm; have f5_ := f3_.symm; clear f1_ f2_ f3_; subst f4_; subst f5_))
                obtain ⟨Ao55, co55, eo55⟩ := Kd.R_slice HO332.out
                (first | subst eo55 | (injection eo55 with f1_ f2_ f3_; have f4_ := f1_.symm; have f5_ := f3_.symm; clear f1_ f2_ f3_; subst f4_; subst f5_))
                refine hK.out _ _ ⟨(blk_cell BK314.out 0).trans rfl, (blk_cell BK314.out 1).trans rfl⟩ (fun hHeld => ?_)
                clear hK K
                refine norm_ (a' := ?_) ?_ ?_
                rotate_left
                ·
                 show Act.put _ (some 58) _ = _
                 simp only [Act.put, List.setIfInBounds_toArray, List.set_cons_zero, List.set_cons_succ, i64_w, i32_w]
                 rfl
                refine pure_ (i := 11) (N := some 59) (v := ?_) (a' := ?_) #[true, true, true, true, true, true, true, true, true, true, true, true, true, false] rfl rfl (any_of HT_.out (by kernel_rfl)) (fun _ _ _ h => h) (Or.inl ⟨by rfl, ?_⟩) ?_ ?_
                rotate_left
                ·
                 intro w'
                 go_simp
                 with_reducible rfl
                rotate_left
                ·
                 simp only [Act.put, List.setIfInBounds_toArray, List.set_cons_zero, List.set_cons_succ, i64_w, i32_w]
                 rfl
                exact norm_ (by simp only [putAll, Act.put, List.setIfInBounds_toArray, List.set_cons_zero, List.set_cons_succ]) (hCont (v327, .slice Ao55 y330.length co55, .slice Ao54 t337.length co54, gb340) _ ⟨hHeld, (rA HO332.out), (by (with_reducible repeat (first | apply Kd.S_alloc | apply Kd.S_drewN | apply Kd.S_drew)); exact Kd.S_mono HO339.out (fun _ hk => hk.2)), (rA HO_8.out), (bkA BK314.out), (bkA BK315.out), (bkA BK340.out), GW340.out, GE340.out, NB314_340.out, NB340_314.out, NB315_340.out, NB340_315.out, (hbA HB)⟩)
              ·
               skip
               refine box_step ?hg (N := 9) ?hd (cs := #[.slice none 0 0, .slice none 0 0]) (t := 50) ?hr ?_; (case hd => rfl); (case hg => rfl); (case hr => first | (go_simp; done) | (go_simp; rfl))
               intro gb340 hg w49 hbox hb
               have n0_ := Aside0.mk (Kd.R_below (rA HO_8.out) hb)
               have n1_ := Aside0.mk (blk_below (g := gb314) (o := .cells #[.slice A0_0 l0_0.length c0_0, .slice A0_1 l0_1.length c0_1] 50 (0, 0)) (bkA BK314.out) hb)
               have n2_ := Aside0.mk (blk_below (g := gb315) (o := .cells #[.slice none 0 0, .slice none 0 0] 50 (0, 0)) (bkA BK315.out) hb)
               have n3_ := Aside0.mk (below_step (hbA HB) hb)
               have n4_ := Aside0.mk (hbox)
               have n5_ := Aside0.mk ((by rw [hg]; exact (below_size (hbA HB)) : w.heap.size ≤ gb340))
               have n6_ := Aside0.mk ((by rw [hg]; exact (below_size (hbA HB)) : w.heap.size ≤ gb340))
               have n7_ := Aside0.mk ((by rw [hg]; exact Nat.ne_of_lt (blk_lt (g := gb314) (o := .cells #[.slice A0_0 l0_0.length c0_0, .slice A0_1 l0_1.length c0_1] 50 (0, 0)) (bkA BK314.out)) : gb314 ≠ gb340))
               have n8_ := Aside0.mk ((by rw [hg]; exact Nat.ne_of_gt (blk_lt (g := gb314) (o := .cells #[.slice A0_0 l0_0.length c0_0, .slice A0_1 l0_1.length c0_1] 50 (0, 0)) (bkA BK314.out)) : gb340 ≠ gb314))
               have n9_ := Aside0.mk ((by rw [hg]; exact Nat.ne_of_lt (blk_lt (g := gb315) (o := .cells #[.slice none 0 0, .slice none 0 0] 50 (0, 0)) (bkA BK315.out)) : gb315 ≠ gb340))
               have n10_ := Aside0.mk ((by rw [hg]; exact Nat.ne_of_gt (blk_lt (g := gb315) (o := .cells #[.slice none 0 0, .slice none 0 0] 50 (0, 0)) (bkA BK315.out)) : gb340 ≠ gb315))
               clear HO_8
               clear BK314
               clear BK315
               clear HB
               have HO_8 := n0_
               have BK314 := n1_
               have BK315 := n2_
               have HB := n3_
               have BK340 := n4_
               have GW340 := n5_
               have GE340 := n6_
               have NB314_340 := n7_
               have NB340_314 := n8_
               have NB315_340 := n9_
               have NB340_315 := n10_
               clear n0_ n1_ n2_ n3_ n4_ n5_ n6_ n7_ n8_ n9_ n10_
               clear hb hbox hg
               refine hK.out _ _ ⟨(blk_cell BK314.out 0).trans rfl, (blk_cell BK314.out 1).trans rfl⟩ (fun hHeld => ?_)
               clear hK K
               refine norm_ (a' := ?_) ?_ ?_
               rotate_left
               ·
                show Act.put _ (some 9) _ = _
                simp only [Act.put, List.setIfInBounds_toArray, List.set_cons_zero, List.set_cons_succ, i64_w, i32_w]
                rfl
               refine one_ (i := 0) (N := some 48) #[true, true, true, true, true, false, true, true, true, true, false, false, true, false] rfl rfl (one_of HT_.out (by kernel_rfl)) (by decide) (fun K hK => ?_)
               refine Kd.R_lit_step (Kd.int .i64) _ 3 ?hg (N := 48) ?hd (xs := ([] : List Int)) (inner := []) (ok := fun _ => True) (okp := fun _ => True) ?hr ?hp (fun _ hk => hk) trivial (Below.refl _ _) (Nat.le_refl _) (by simp) ?_; (case hd => rfl); (case hg => rfl); (case hr => first | (go_simp; done) | (go_simp; rfl)); (case hp => exact (Reps.none _ _))
               intro v327 w50 ho51 hb hg_ hnew_
               clear hg_ hnew_
               (first | rw [← Ny326.out] at ho51 | (simp only [Int.reduceToNat] at ho51; rw [← Ny326.out] at ho51))
               have n0_ := Aside0.mk (Kd.R_below (rA HO_8.out) hb)
               have n1_ := Aside0.mk (Kd.R_lower ho51 (below_size (hbA HB)))
               have n2_ := Aside0.mk (blk_below (g := gb314) (o := .cells #[.slice A0_0 l0_0.length c0_0, .slice A0_1 l0_1.length c0_1] 50 (0, 0)) (bkA BK314.out) hb)
               have n3_ := Aside0.mk (blk_below (g := gb315) (o := .cells #[.slice none 0 0, .slice none 0 0] 50 (0, 0)) (bkA BK315.out) hb)
               have n4_ := Aside0.mk (blk_below (g := gb340) (o := .cells #[.slice none 0 0, .slice none 0 0] 50 (0, 0)) (bkA BK340.out) hb)
               have n5_ := Aside0.mk (below_step (hbA HB) hb)
               clear HO_8
               clear BK314
               clear BK315
               clear BK340
               clear HB
               have HO_8 := n0_
               have HO328 := n1_
               have BK314 := n2_
               have BK315 := n3_
               have BK340 := n4_
               have HB := n5_
               clear n0_ n1_ n2_ n3_ n4_ n5_
               clear hb ho51
               refine hK.out _ _ ⟨(blk_cell BK314.out 0).trans rfl, (blk_cell BK314.out 1).trans rfl⟩ (fun hHeld => ?_)
               clear hK K
               refine norm_ (a' := ?_) ?_ ?_
               rotate_left
               ·
                show Act.put _ (some 48) _ = _
                simp only [Act.put, List.setIfInBounds_toArray, List.set_cons_zero, List.set_cons_succ, i64_w, i32_w]
                rfl
               refine one_ (i := 5) (N := some 53) #[true, true, true, true, true, true, true, true, true, true, false, false, true, false] rfl rfl (one_of HT_.out (by kernel_rfl)) (by decide) (fun K hK => ?_)
               refine Kd.R_append_rows_step (Kd.int .i64) (w0 := w) w.heap.size (by rfl) (.tmp 48) (.tmp 52) 22 3 (.int .i64 0) 8 rfl Try.underlying22 info3 rfl (by decide) (by omega) v327 y326 (l0_0.take (x6_18 : Int).toNat) _ _ _ (fun _ => True) (fun _ => False) rfl rfl ?aO ?aR (fun _ _ h => h) (fun _ h => h.elim) ?aF ?aB ?aS ?aL ?_
               (case aR => first | (have q_ := Kd.C_below HR329.out (hbA HB); rw [show (l0_0.take (x6_18 : Int).toNat).length = x6_18.toNat from (by rw [List.length_take]; have h_ : (x6_18 : Int) ≤ (l0_0.length : Int) := of_decide_eq_true asA; omega)] at q_; exact q_) | (rw [← show (l0_0.take (x6_18 : Int).toNat).length = x6_18.toNat from (by rw [List.length_take]; have h_ : (x6_18 : Int) ≤ (l0_0.length : Int) := of_decide_eq_true asA; omega)]; exact cA (Kd.C_below HR329.out HB.out)) | (exact cA (Kd.C_below HR329.out HB.out)))
               (case aB => exact (hbA HB))
               (case aF => exact (fun _ _ => trivial))
               (case aO => exact (rA HO328.out))
               (case aS => exact (below_size (hbA HB)))
               (case aL => have := LMc38.out; have hlx_ := (show (l0_0.take (x6_18 : Int).toNat).length = x6_18.toNat from (by rw [List.length_take]; have h_ : (x6_18 : Int) ≤ (l0_0.length : Int) := of_decide_eq_true asA; omega)); omega)
               intro v331 w52 ho hb hg hat
               rw [← Ny330.out] at ho
               have n0_ := Aside0.mk (Kd.R_over' (rA HO_8.out) (Kd.R_typed (rA HO328.out)) (by decide) hg)
               have n1_ := Aside0.mk (blk_grown (g := gb314) (o := .cells #[.slice A0_0 l0_0.length c0_0, .slice A0_1 l0_1.length c0_1] 50 (0, 0)) (bkA BK314.out) hg (Kd.R_ne HO328.out BK314.out (by decide)))
               have n2_ := Aside0.mk (blk_grown (g := gb315) (o := .cells #[.slice none 0 0, .slice none 0 0] 50 (0, 0)) (bkA BK315.out) hg (Kd.R_ne HO328.out BK315.out (by decide)))
               have n3_ := Aside0.mk (blk_grown (g := gb340) (o := .cells #[.slice none 0 0, .slice none 0 0] 50 (0, 0)) (bkA BK340.out) hg (Kd.R_ne HO328.out BK340.out (by decide)))
               have n4_ := Aside0.mk (hb)
               have n5_ := Aside0.mk (ho)
               clear HO_8
               clear BK314
               clear BK315
               clear BK340
               clear HB
               clear HO328
               have HO_8 := n0_
               have BK314 := n1_
               have BK315 := n2_
               have BK340 := n3_
               have HB := n4_
               have HO332 := n5_
               clear n0_ n1_ n2_ n3_ n4_ n5_
               clear ho hb hg hat
               refine hK.out _ _ ⟨(blk_cell BK314.out 0).trans rfl, (blk_cell BK314.out 1).trans rfl⟩ (fun hHeld => ?_)
               clear hK K
               refine norm_ (a' := ?_) ?_ ?_
               rotate_left
               ·
                show Act.put _ (some 53) _ = _
                simp only [Act.put, List.setIfInBounds_toArray, List.set_cons_zero, List.set_cons_succ, i64_w, i32_w]
                rfl
               refine one_ (i := 10) (N := some 58) #[true, true, true, true, true, true, true, true, true, true, true, false, true, false] rfl rfl (one_of HT_.out (by kernel_rfl)) (by decide) (fun K hK => ?_)
               refine goes_ Try.func95 (by kernel_rfl) rfl #[.slice A0_1 y333.length c0_1] (by rfl) rfl rfl mtA ?_
               with_reducible refine (spec_l06Copy.calls kj18 _ _ y333 t337 _ ?side1 ?side2 A41.out).mono ?_
               (case side1 => exact cA (Kd.C_below HR336.out HB.out))
               (case side2 => exact HC336.out)
               rintro e w53 ⟨v338, rfl, ho0, hb⟩
               refine ⟨_, rfl, ?_⟩
               have n0_ := Aside0.mk (Kd.R_below (rA HO_8.out) hb)
               have n1_ := Aside0.mk (Kd.R_below (rA HO332.out) hb)
               have n2_ := Aside0.mk (Kd.S_lower (Kd.S_new' ho0 (Kd.R_lt (rA HO_8.out))) (below_size (hbA HB)))
               have n3_ := Aside0.mk (blk_below (g := gb314) (o := .cells #[.slice A0_0 l0_0.length c0_0, .slice A0_1 l0_1.length c0_1] 50 (0, 0)) (bkA BK314.out) hb)
               have n4_ := Aside0.mk (blk_below (g := gb315) (o := .cells #[.slice none 0 0, .slice none 0 0] 50 (0, 0)) (bkA BK315.out) hb)
               have n5_ := Aside0.mk (blk_below (g := gb340) (o := .cells #[.slice none 0 0, .slice none 0 0] 50 (0, 0)) (bkA BK340.out) hb)
               have n6_ := Aside0.mk (below_step (hbA HB) hb)
               clear HO_8
               clear HO332
               clear BK314
               clear BK315
               clear BK340
               clear HB
               have HO_8 := n0_
               have HO332 := n1_
               have HO339 := n2_
               have BK314 := n3_
               have BK315 := n4_
               have BK340 := n5_
               have HB := n6_
               clear n0_ n1_ n2_ n3_ n4_ n5_ n6_
               (try clear hb)
               (try clear hb2)
               (try clear hk)
               (try clear hi)
               (try clear ho0)
               obtain ⟨Ao54, co54, eo54⟩ := Kd.S_slice HO339.out
               (first | subst eo54 | (injection eo54 with f1_ f2_ f3_; have f4_ := f1_.symm; have f5_ := f3_.symm; clear f1_ f2_ f3_; subst f4_; subst f5_))
               obtain ⟨Ao55, co55, eo55⟩ := Kd.R_slice HO332.out
               (first | subst eo55 | (injection eo55 with f1_ f2_ f3_; have f4_ := f1_.symm; have f5_ := f3_.symm; clear f1_ f2_ f3_; subst f4_; subst f5_))
               refine hK.out _ _ ⟨(blk_cell BK314.out 0).trans rfl, (blk_cell BK314.out 1).trans rfl⟩ (fun hHeld => ?_)
               clear hK K
               refine norm_ (a' := ?_) ?_ ?_
               rotate_left
               ·
                show Act.put _ (some 58) _ = _
                simp only [Act.put, List.setIfInBounds_toArray, List.set_cons_zero, List.set_cons_succ, i64_w, i32_w]
                rfl
               refine pure_ (i := 11) (N := some 59) (v := ?_) (a' := ?_) #[true, true, true, true, true, true, true, true, true, true, true, true, true, false] rfl rfl (any_of HT_.out (by kernel_rfl)) (fun _ _ _ h => h) (Or.inl ⟨by rfl, ?_⟩) ?_ ?_
               rotate_left
               ·
                intro w'
                go_simp
                with_reducible rfl
               rotate_left
               ·
                simp only [Act.put, List.setIfInBounds_toArray, List.set_cons_zero, List.set_cons_succ, i64_w, i32_w]
                rfl
               exact norm_ (by simp only [putAll, Act.put, List.setIfInBounds_toArray, List.set_cons_zero, List.set_cons_succ]) (hCont (v327, .slice Ao55 y330.length co55, .slice Ao54 t337.length co54, gb340) _ ⟨hHeld, (rA HO332.out), (by (with_reducible repeat (first | apply Kd.S_alloc | apply Kd.S_drewN | apply Kd.S_drew)); exact Kd.S_mono HO339.out (fun _ hk => hk.2)), (rA HO_8.out), (bkA BK314.out), (bkA BK315.out), (bkA BK340.out), GW340.out, GE340.out, NB314_340.out, NB340_314.out, NB315_340.out, NB340_315.out, (hbA HB)⟩)
             rintro ⟨v327, v331, v338, gb340⟩ w56 ⟨hS_, h0_, h1_, h2_, h3_, h4_, h5_, h6_, h7_, h8_, h9_, h10_, h11_, h12_⟩
             have n0_ : Aside0 (Kd.R (Kd.int .i64) 3 w56 w.heap.size (fun _ => True) v331 y330) := ⟨h0_⟩
             have n1_ : Aside0 (Kd.S (Kd.slice 5 (Kd.int .u8)) 23 w56 w.heap.size (fun k_ => some k_ ≠ (u8 : Value).ownBlock) v338 t337) := ⟨h1_⟩
             have n2_ : Aside0 (Kd.R (Kd.int .u8) 5 w56 w.heap.size (fun _ => True) u8 x8_18) := ⟨h2_⟩
             have n3_ : Aside0 (w56.heap[gb314]? = some (.cells #[.slice A0_0 l0_0.length c0_0, .slice A0_1 l0_1.length c0_1] 50 (0, 0))) := ⟨h3_⟩
             have n4_ : Aside0 (w56.heap[gb315]? = some (.cells #[.slice none 0 0, .slice none 0 0] 50 (0, 0))) := ⟨h4_⟩
             have n5_ : Aside0 (w56.heap[gb340]? = some (.cells #[.slice none 0 0, .slice none 0 0] 50 (0, 0))) := ⟨h5_⟩
             have n6_ : Aside0 (w.heap.size ≤ gb340) := ⟨h6_⟩
             have n7_ : Aside0 (w.heap.size ≤ gb340) := ⟨h7_⟩
             have n8_ : Aside0 (gb314 ≠ gb340) := ⟨h8_⟩
             have n9_ : Aside0 (gb340 ≠ gb314) := ⟨h9_⟩
             have n10_ : Aside0 (gb315 ≠ gb340) := ⟨h10_⟩
             have n11_ : Aside0 (gb340 ≠ gb315) := ⟨h11_⟩
             have n12_ : Aside0 (Below w.heap.size w w56) := ⟨h12_⟩
             clear HO_8
             clear BK314
             clear BK315
             clear HB
             clear h0_ h1_ h2_ h3_ h4_ h5_ h6_ h7_ h8_ h9_ h10_ h11_ h12_
             have HO332 := n0_
             have HO339 := n1_
             have HO_8 := n2_
             have BK314 := n3_
             have BK315 := n4_
             have BK340 := n5_
             have GW340 := n6_
             have GE340 := n7_
             have NB314_340 := n8_
             have NB340_314 := n9_
             have NB315_340 := n10_
             have NB340_315 := n11_
             have HB := n12_
             clear n0_ n1_ n2_ n3_ n4_ n5_ n6_ n7_ n8_ n9_ n10_ n11_ n12_
             have hHeld : w56.cell? ⟨gb314, 0, none⟩ = some (.slice A0_0 l0_0.length c0_0) ∧ w56.cell? ⟨gb314, 1, none⟩ = some (.slice A0_1 l0_1.length c0_1) := hS_
             obtain ⟨Ao57, co57, eo57⟩ := Kd.S_slice HO339.out
             (first | subst eo57 | (injection eo57 with f1_ f2_ f3_; have f4_ := f1_.symm; have f5_ := f3_.symm; clear f1_ f2_ f3_; subst f4_; subst f5_))
             obtain ⟨Ao58, co58, eo58⟩ := Kd.R_slice HO332.out
             (first | subst eo58 | (injection eo58 with f1_ f2_ f3_; have f4_ := f1_.symm; have f5_ := f3_.symm; clear f1_ f2_ f3_; subst f4_; subst f5_))
             refine norm_ (a' := ?_) ?_ ?_
             rotate_left
             ·
              simp only [putAll, Act.put, List.setIfInBounds_toArray, List.set_cons_zero, List.set_cons_succ]
              rfl
             refine one_ (i := 13) (N := none) #[true, true, true, true, true, true, true, true, true, true, true, true, true, true] rfl rfl (one_of HT_.out (by kernel_rfl)) (by decide) (fun K hK => ?_)
             have hs59 : w56.cell? ⟨gb340, 0, none⟩ = some (.slice none 0 0) := (blk_cell BK340.out 0).trans rfl
             have hfs59 := blk_frozen BK340.out 0
             have hns59_0 := NB314_340.out
             have hns59_1 := NB315_340.out
             have hms59_0 := NB340_314.out
             have hms59_1 := NB340_315.out
             have hs60 : w56.cell? ⟨gb340, 1, none⟩ = some (.slice none 0 0) := (blk_cell BK340.out 1).trans rfl
             have hfs60 := blk_frozen BK340.out 1
             have hns60_0 := NB314_340.out
             have hns60_1 := NB315_340.out
             have hms60_0 := NB340_314.out
             have hms60_1 := NB340_315.out
             refine skip_ (w1 := ?_) (by rfl) rfl ?_ ?_
             rotate_left
             ·
              go_simp
              rfl
             refine hK.out _ _ ⟨((cell_far (p := ⟨gb340, _, none⟩) NB314_340.out _).trans (((cell_far (p := ⟨gb340, _, none⟩) NB314_340.out _).trans (hHeld.1)))), ((cell_far (p := ⟨gb340, _, none⟩) NB314_340.out _).trans (((cell_far (p := ⟨gb340, _, none⟩) NB314_340.out _).trans (hHeld.2))))⟩ (fun hHeld => ?_)
             clear hK K
             refine done_ (done_of HT_.out (by kernel_rfl)) ?_
             have hnb61 := NB340_314.out
             have hnc61 := NB314_340.out
             have hnb62 := NB340_315.out
             have hnc62 := NB315_340.out
             have hcz63_0 : w56.cell? ⟨gb340, 0, none⟩ = some (.slice none 0 0) := (blk_cell BK340.out 0).trans rfl
             have hcz63_1 : w56.cell? ⟨gb340, 1, none⟩ = some (.slice none 0 0) := (blk_cell BK340.out 1).trans rfl
             have hfz63_0 := blk_frozen BK340.out 0
             have hfz63_1 := blk_frozen BK340.out 1
             try go_wp2_with (first | ((with_reducible refine gate_builtin (b := .append) (xs := #[.tmp 61, .tmp 63]) rfl ?_); at_builtin; refine Kd.R_append (Kd.int .i64) (w0 := w) w.heap.size rfl (.tmp 61) (.tmp 63) 22 3 (.int .i64 0) 8 rfl Try.underlying22 info3 rfl (by decide) (by omega) (.slice Ao58 y330.length co58) y330 x7_18 [.int .i64 x7_18] (fun _ => True) (fun _ => False) rfl (by first | (go_simp; done) | (go_simp; rfl)) ?aP (fun _ hk => hk.elim) ?aF ?aO ?aB ?aS ?aL ?_; (case aP => exact rfl); (case aB => exact (hbA HB)); (case aF => exact (fun _ _ => trivial)); (case aO => exact (by (with_reducible repeat (first | apply Kd.R_alloc | apply Kd.R_drewN | apply Kd.R_drew)); exact Kd.R_mono (Kd.R_far (p := ⟨gb340, 1, none⟩) (Kd.R_far (p := ⟨gb340, 0, none⟩) (Kd.R_types HO332.out BK340.out (by decide)) (fun _ hk => hk.2) (.slice Ao58 y330.length co58)) (fun _ hk => hk.2) (.slice Ao57 t337.length co57)) (fun _ hk => trivial))); (case aS => exact (below_size (hbA HB))); (case aL => have := LMc42.out; omega); intro v342 w64 ho hb hg hat; rw [← Ny341.out] at ho; have n0_ := Aside0.mk (Kd.R_over' (by (with_reducible repeat (first | apply Kd.R_alloc | apply Kd.R_drewN | apply Kd.R_drew)); exact (Kd.R_mono (Kd.R_far (p := ⟨gb340, 1, none⟩) (Kd.R_far (p := ⟨gb340, 0, none⟩) (Kd.R_types HO_8.out BK340.out (by decide)) (fun _ hk => hk.2) (.slice Ao58 y330.length co58)) (fun _ hk => hk.2) (.slice Ao57 t337.length co57)) (fun _ h_ => h_.1))) (Kd.R_typed (by (with_reducible repeat (first | apply Kd.R_alloc | apply Kd.R_drewN | apply Kd.R_drew)); exact (Kd.R_mono (Kd.R_far (p := ⟨gb340, 1, none⟩) (Kd.R_far (p := ⟨gb340, 0, none⟩) (Kd.R_types HO332.out BK340.out (by decide)) (fun _ hk => hk.2) (.slice Ao58 y330.length co58)) (fun _ hk => hk.2) (.slice Ao57 t337.length co57)) (fun _ h_ => h_.1)))) (by decide) hg); have n1_ := Aside0.mk (blk_grown (g := gb314) (o := .cells #[.slice A0_0 l0_0.length c0_0, .slice A0_1 l0_1.length c0_1] 50 (0, 0)) (by (with_reducible repeat (first | refine blk_drewN ?_ _ | refine blk_drew ?_ | refine blk_alloc ?_ _)); refine blk_far ?_ NB314_340.out _; (with_reducible repeat (first | refine blk_drewN ?_ _ | refine blk_drew ?_ | refine blk_alloc ?_ _)); refine blk_far ?_ NB314_340.out _; (with_reducible repeat (first | refine blk_drewN ?_ _ | refine blk_drew ?_ | refine blk_alloc ?_ _)); exact BK314.out) hg (Kd.R_ne HO332.out BK314.out (by decide))); have n2_ := Aside0.mk (blk_grown (g := gb315) (o := .cells #[.slice none 0 0, .slice none 0 0] 50 (0, 0)) (by (with_reducible repeat (first | refine blk_drewN ?_ _ | refine blk_drew ?_ | refine blk_alloc ?_ _)); refine blk_far ?_ NB315_340.out _; (with_reducible repeat (first | refine blk_drewN ?_ _ | refine blk_drew ?_ | refine blk_alloc ?_ _)); refine blk_far ?_ NB315_340.out _; (with_reducible repeat (first | refine blk_drewN ?_ _ | refine blk_drew ?_ | refine blk_alloc ?_ _)); exact BK315.out) hg (Kd.R_ne HO332.out BK315.out (by decide))); have n3_ := Aside0.mk (Kd.S_over' (by (with_reducible repeat (first | apply Kd.S_alloc | apply Kd.S_drewN | apply Kd.S_drew)); exact (Kd.S_mono (Kd.S_far (p := ⟨gb340, 1, none⟩) (Kd.S_far (p := ⟨gb340, 0, none⟩) (Kd.S_types HO339.out BK340.out (by decide)) (fun _ hk => hk.2) (.slice Ao58 y330.length co58)) (fun _ hk => hk.2) (.slice Ao57 t337.length co57)) (fun _ h_ => h_.1))) (Kd.R_typed (by (with_reducible repeat (first | apply Kd.R_alloc | apply Kd.R_drewN | apply Kd.R_drew)); exact (Kd.R_mono (Kd.R_far (p := ⟨gb340, 1, none⟩) (Kd.R_far (p := ⟨gb340, 0, none⟩) (Kd.R_types HO332.out BK340.out (by decide)) (fun _ hk => hk.2) (.slice Ao58 y330.length co58)) (fun _ hk => hk.2) (.slice Ao57 t337.length co57)) (fun _ h_ => h_.1)))) (by decide) hg); have n4_ := Aside0.mk (blk_grown (g := gb340) (o := .cells #[.slice Ao58 y330.length co58, .slice Ao57 t337.length co57] 50 (0, 0)) (by (with_reducible repeat (first | refine blk_drewN ?_ _ | refine blk_drew ?_ | refine blk_alloc ?_ _)); refine blk_put (cs := #[.slice Ao58 y330.length co58, .slice none 0 0]) ?_ 1 _ rfl; (with_reducible repeat (first | refine blk_drewN ?_ _ | refine blk_drew ?_ | refine blk_alloc ?_ _)); refine blk_put (cs := #[.slice none 0 0, .slice none 0 0]) ?_ 0 _ rfl; (with_reducible repeat (first | refine blk_drewN ?_ _ | refine blk_drew ?_ | refine blk_alloc ?_ _)); exact BK340.out) hg (Kd.R_ne HO332.out BK340.out (by decide))); have n5_ := Aside0.mk (hb); have n6_ := Aside0.mk (ho); clear HO_8; clear BK314; clear BK315; clear HO339; clear BK340; clear HB; clear HO332; have HO_8 := n0_; have BK314 := n1_; have BK315 := n2_; have HO339 := n3_; have BK340 := n4_; have HB := n5_; have HO343 := n6_; clear n0_ n1_ n2_ n3_ n4_ n5_ n6_; clear ho hb hg hat; obtain ⟨Ao65, co65, eo65⟩ := Kd.R_slice HO343.out; subst eo65; have hcz66_0 : w64.cell? ⟨gb340, 0, none⟩ = some (.slice Ao58 y330.length co58) := (blk_cell BK340.out 0).trans rfl; have hcz66_1 : w64.cell? ⟨gb340, 1, none⟩ = some (.slice Ao57 t337.length co57) := (blk_cell BK340.out 1).trans rfl; have hfz66_0 := blk_frozen BK340.out 0; have hfz66_1 := blk_frozen BK340.out 1) | ((with_reducible refine gate_store (t := 22) (p := 65) rfl ?_); refine store_event (t := 22) (p := 65) (v := ?vo_w67) (w1 := (w64.setCell ⟨gb340, 0, none⟩ (.slice Ao65 y341.length co65))) ?hg ?ho ?hn ?hr ?_; (case ho => rfl); (case hg => rfl); (case hn => rfl); (case hr => first | (go_simp; done) | (go_simp; rfl)); intro w67 hw; have n0_ : Aside0 (Kd.R (Kd.int .u8) 5 w67 w.heap.size (fun _ => True) u8 x8_18) := ⟨(by rw [hw]; exact (by (with_reducible repeat (first | apply Kd.R_alloc | apply Kd.R_drewN | apply Kd.R_drew)); exact Kd.R_mono (Kd.R_far (p := ⟨gb340, 0, none⟩) (Kd.R_types HO_8.out BK340.out (by decide)) (fun _ hk => hk.2) (.slice Ao65 y341.length co65)) (fun _ hk => trivial)))⟩; have n1_ : Aside0 (Kd.S (Kd.slice 5 (Kd.int .u8)) 23 w67 w.heap.size (fun k_ => some k_ ≠ (u8 : Value).ownBlock) (.slice Ao57 t337.length co57) t337) := ⟨(by rw [hw]; exact (by (with_reducible repeat (first | apply Kd.S_alloc | apply Kd.S_drewN | apply Kd.S_drew)); exact Kd.S_mono (Kd.S_far (p := ⟨gb340, 0, none⟩) (Kd.S_types HO339.out BK340.out (by decide)) (fun _ hk => hk.2) (.slice Ao65 y341.length co65)) (fun _ hk => hk.1)))⟩; have n2_ : Aside0 (Kd.R (Kd.int .i64) 3 w67 w.heap.size (fun _ => True) (.slice Ao65 y341.length co65) y341) := ⟨(by rw [hw]; exact (by (with_reducible repeat (first | apply Kd.R_alloc | apply Kd.R_drewN | apply Kd.R_drew)); exact Kd.R_mono (Kd.R_far (p := ⟨gb340, 0, none⟩) (Kd.R_types HO343.out BK340.out (by decide)) (fun _ hk => hk.2) (.slice Ao65 y341.length co65)) (fun _ hk => trivial)))⟩; have n3_ : Aside0 (w67.heap[gb314]? = some (.cells #[.slice A0_0 l0_0.length c0_0, .slice A0_1 l0_1.length c0_1] 50 (0, 0))) := ⟨(by rw [hw]; exact (by (with_reducible repeat (first | refine blk_drewN ?_ _ | refine blk_drew ?_ | refine blk_alloc ?_ _)); refine blk_far ?_ NB314_340.out _; (with_reducible repeat (first | refine blk_drewN ?_ _ | refine blk_drew ?_ | refine blk_alloc ?_ _)); exact BK314.out))⟩; have n4_ : Aside0 (w67.heap[gb315]? = some (.cells #[.slice none 0 0, .slice none 0 0] 50 (0, 0))) := ⟨(by rw [hw]; exact (by (with_reducible repeat (first | refine blk_drewN ?_ _ | refine blk_drew ?_ | refine blk_alloc ?_ _)); refine blk_far ?_ NB315_340.out _; (with_reducible repeat (first | refine blk_drewN ?_ _ | refine blk_drew ?_ | refine blk_alloc ?_ _)); exact BK315.out))⟩; have n5_ : Aside0 (w67.heap[gb340]? = some (.cells #[.slice Ao65 y341.length co65, .slice Ao57 t337.length co57] 50 (0, 0))) := ⟨(by rw [hw]; exact (by (with_reducible repeat (first | refine blk_drewN ?_ _ | refine blk_drew ?_ | refine blk_alloc ?_ _)); refine blk_put (cs := #[.slice Ao58 y330.length co58, .slice Ao57 t337.length co57]) ?_ 0 _ rfl; (with_reducible repeat (first | refine blk_drewN ?_ _ | refine blk_drew ?_ | refine blk_alloc ?_ _)); exact BK340.out))⟩; have n6_ : Aside0 (Below w.heap.size w w67) := ⟨(by rw [hw]; exact (hbA HB))⟩; clear hw; clear HO_8; clear HO339; clear HO343; clear BK314; clear BK315; clear BK340; clear HB; have HO_8 := n0_; have HO339 := n1_; have HO343 := n2_; have BK314 := n3_; have BK315 := n4_; have BK340 := n5_; have HB := n6_; clear n0_ n1_ n2_ n3_ n4_ n5_ n6_; have hcz68_0 : w67.cell? ⟨gb340, 0, none⟩ = some (.slice Ao65 y341.length co65) := (blk_cell BK340.out 0).trans rfl; have hcz68_1 : w67.cell? ⟨gb340, 1, none⟩ = some (.slice Ao57 t337.length co57) := (blk_cell BK340.out 1).trans rfl; have hfz68_0 := blk_frozen BK340.out 0; have hfz68_1 := blk_frozen BK340.out 1; obtain ⟨Ao70, co70, eo70⟩ := Kd.R_slice HO_8.out; subst eo70) | ((with_reducible refine gate_builtin (b := .append) (xs := #[.tmp 67, .tmp 69]) rfl ?_); at_builtin; refine Kd.S_append (Kd.slice 5 (Kd.int .u8)) (w0 := w) w.heap.size rfl (.tmp 67) (.tmp 69) 38 23 (.slice none 0 0) 24 rfl Try.underlying38 info23 rfl (by decide) (by omega) (.slice Ao57 t337.length co57) t337 x8_18 [.slice Ao70 x8_18.length co70] (fun _ => True) (fun k_ => some k_ = (.slice Ao70 x8_18.length co70 : Value).ownBlock) rfl rfl ?aP (fun k_ hk_ => ((Kd.R_mono (ok' := fun k_ => ((fun _ => True)) k_ ∧ some k_ ≠ (.slice Ao57 t337.length co57 : Value).ownBlock) (Kd.R_apart' (HO_8.out) (Kd.S_typed HO339.out) (by decide)) (fun k_ hk => ⟨trivial, hk.2⟩))).1 k_ hk_.symm) ?aF ?aO ?aB ?aS ?aL ?_; (case aP => exact Kd.M_row (Kd.R_mono (Kd.R_tight rfl (Kd.R_mono (ok' := fun k_ => ((fun _ => True)) k_ ∧ some k_ ≠ (.slice Ao57 t337.length co57 : Value).ownBlock) (Kd.R_apart' (HO_8.out) (Kd.S_typed HO339.out) (by decide)) (fun k_ hk => ⟨trivial, hk.2⟩))) (fun _ h_ => h_))); (case aB => exact (hbA HB)); (case aF => exact (fun _ _ => trivial)); (case aO => exact (by (with_reducible repeat (first | apply Kd.S_alloc | apply Kd.S_drewN | apply Kd.S_drew)); exact Kd.S_mono HO339.out (fun k_ hk => ⟨trivial, fun e_ => hk e_⟩))); (case aS => exact (below_size (hbA HB))); (case aL => have := LMc43.out; omega); intro v345 w69 ho hb hg hat; rw [← Ny344.out] at ho; have n0_ := Aside0.mk (blk_grown (g := gb314) (o := .cells #[.slice A0_0 l0_0.length c0_0, .slice A0_1 l0_1.length c0_1] 50 (0, 0)) (bkA BK314.out) hg (Kd.S_ne HO339.out BK314.out (by decide))); have n1_ := Aside0.mk (blk_grown (g := gb315) (o := .cells #[.slice none 0 0, .slice none 0 0] 50 (0, 0)) (bkA BK315.out) hg (Kd.S_ne HO339.out BK315.out (by decide))); have n2_ := Aside0.mk (blk_grown (g := gb340) (o := .cells #[.slice Ao65 y341.length co65, .slice Ao57 t337.length co57] 50 (0, 0)) (bkA BK340.out) hg (Kd.S_ne HO339.out BK340.out (by decide))); have n3_ := Aside0.mk (Kd.R_over' (rA HO343.out) (Kd.S_typed (sA HO339.out)) (by decide) hg); have n4_ := Aside0.mk (hb); have n5_ := Aside0.mk (ho); clear BK314; clear BK315; clear BK340; clear HO343; clear HB; clear HO339; clear HO_8; have BK314 := n0_; have BK315 := n1_; have BK340 := n2_; have HO343 := n3_; have HB := n4_; have HO346 := n5_; clear n0_ n1_ n2_ n3_ n4_ n5_; clear ho hb hg hat; obtain ⟨Ao71, co71, eo71⟩ := Kd.S_slice HO346.out; subst eo71; have hcz72_0 : w69.cell? ⟨gb340, 0, none⟩ = some (.slice Ao65 y341.length co65) := (blk_cell BK340.out 0).trans rfl; have hcz72_1 : w69.cell? ⟨gb340, 1, none⟩ = some (.slice Ao57 t337.length co57) := (blk_cell BK340.out 1).trans rfl; have hfz72_0 := blk_frozen BK340.out 0; have hfz72_1 := blk_frozen BK340.out 1) | ((with_reducible refine gate_callee (f := 92) rfl ?_); refine goesL_ (some 73) rfl rfl Try.func92 (by kernel_rfl) rfl #[.agg #[.slice Ao65 y341.length co65, .slice Ao71 y344.length co71]] rfl mtA ?_; (with_reducible refine (spec_StackOk.calls kj18 _ _ y341 _ _ y344 true _ ?side1 ?side2 ?side3 ?side4 A44.out).mono ?_); (case side1 => refine (Kd.R_reads' (e := 3) (base := w.heap.size) (ok := fun k_ => True) (n := y341.length) (c := co65) ?_).2.2; exact (by (with_reducible repeat (first | apply Kd.R_alloc | apply Kd.R_drewN | apply Kd.R_drew)); exact (Kd.R_mono (Kd.R_far (p := ⟨gb340, 1, none⟩) (Kd.R_types HO343.out BK340.out (by decide)) (fun _ hk => hk.2) (.slice Ao71 y344.length co71)) (fun _ h_ => h_.1)))); (case side2 => exact (Kd.R_reads' HO343.out).2.1); (case side3 => refine (Kd.S_reads' (e := 23) (base := w.heap.size) (ok := fun k_ => True) (n := y344.length) (c := co71) ?_).2.2; exact (by (with_reducible repeat (first | apply Kd.S_alloc | apply Kd.S_drewN | apply Kd.S_drew)); exact (Kd.S_mono (Kd.S_far (p := ⟨gb340, 1, none⟩) (Kd.S_types HO346.out BK340.out (by decide)) (fun _ hk => hk.2) (.slice Ao71 y344.length co71)) (fun _ h_ => h_.1)))); (case side4 => exact (Kd.S_reads' HO346.out).2.1); rintro e w73 ⟨rfl, hb⟩; refine ⟨_, rfl, ?_⟩; have n0_ := Aside0.mk (Kd.R_below (by (with_reducible repeat (first | apply Kd.R_alloc | apply Kd.R_drewN | apply Kd.R_drew)); exact (Kd.R_mono (Kd.R_far (p := ⟨gb340, 1, none⟩) (Kd.R_types HO343.out BK340.out (by decide)) (fun _ hk => hk.2) (.slice Ao71 y344.length co71)) (fun _ h_ => h_.1))) hb); have n1_ := Aside0.mk (Kd.S_below (by (with_reducible repeat (first | apply Kd.S_alloc | apply Kd.S_drewN | apply Kd.S_drew)); exact (Kd.S_mono (Kd.S_far (p := ⟨gb340, 1, none⟩) (Kd.S_types HO346.out BK340.out (by decide)) (fun _ hk => hk.2) (.slice Ao71 y344.length co71)) (fun _ h_ => h_.1))) hb); have n2_ := Aside0.mk (blk_below (g := gb314) (o := .cells #[.slice A0_0 l0_0.length c0_0, .slice A0_1 l0_1.length c0_1] 50 (0, 0)) (by (with_reducible repeat (first | refine blk_drewN ?_ _ | refine blk_drew ?_ | refine blk_alloc ?_ _)); refine blk_far ?_ NB314_340.out _; (with_reducible repeat (first | refine blk_drewN ?_ _ | refine blk_drew ?_ | refine blk_alloc ?_ _)); exact BK314.out) hb); have n3_ := Aside0.mk (blk_below (g := gb315) (o := .cells #[.slice none 0 0, .slice none 0 0] 50 (0, 0)) (by (with_reducible repeat (first | refine blk_drewN ?_ _ | refine blk_drew ?_ | refine blk_alloc ?_ _)); refine blk_far ?_ NB315_340.out _; (with_reducible repeat (first | refine blk_drewN ?_ _ | refine blk_drew ?_ | refine blk_alloc ?_ _)); exact BK315.out) hb); have n4_ := Aside0.mk (blk_below (g := gb340) (o := .cells #[.slice Ao65 y341.length co65, .slice Ao71 y344.length co71] 50 (0, 0)) (by (with_reducible repeat (first | refine blk_drewN ?_ _ | refine blk_drew ?_ | refine blk_alloc ?_ _)); refine blk_put (cs := #[.slice Ao65 y341.length co65, .slice Ao57 t337.length co57]) ?_ 1 _ rfl; (with_reducible repeat (first | refine blk_drewN ?_ _ | refine blk_drew ?_ | refine blk_alloc ?_ _)); exact BK340.out) hb); have n5_ := Aside0.mk (below_step (hbA HB) hb); clear HO343; clear HO346; clear BK314; clear BK315; clear BK340; clear HB; have HO343 := n0_; have HO346 := n1_; have BK314 := n2_; have BK315 := n3_; have BK340 := n4_; have HB := n5_; clear n0_ n1_ n2_ n3_ n4_ n5_; (try clear hb); (try clear hb2); (try clear hk); (try clear hi); have hcz74_0 : w73.cell? ⟨gb340, 0, none⟩ = some (.slice Ao65 y341.length co65) := (blk_cell BK340.out 0).trans rfl; have hcz74_1 : w73.cell? ⟨gb340, 1, none⟩ = some (.slice Ao71 y344.length co71) := (blk_cell BK340.out 1).trans rfl; have hfz74_0 := blk_frozen BK340.out 0; have hfz74_1 := blk_frozen BK340.out 1; have hnb75 := NB315_314.out; have hnc75 := NB314_315.out; have hcz76_0 : w73.cell? ⟨gb315, 0, none⟩ = some (.slice none 0 0) := (blk_cell BK315.out 0).trans rfl; have hcz76_1 : w73.cell? ⟨gb315, 1, none⟩ = some (.slice none 0 0) := (blk_cell BK315.out 1).trans rfl; have hfz76_0 := blk_frozen BK315.out 0; have hfz76_1 := blk_frozen BK315.out 1))
             refine bodyPost_ret (results_ct rfl _ _ gb315 50 #[.slice Ao65 y341.length co65, .slice Ao71 y344.length co71] (0, 0) _ rfl (by (with_reducible repeat (first | refine blk_drewN ?_ _ | refine blk_drew ?_ | refine blk_alloc ?_ _)); refine blk_put (cs := #[.slice Ao65 y341.length co65, .slice none 0 0]) ?_ 1 _ rfl; (with_reducible repeat (first | refine blk_drewN ?_ _ | refine blk_drew ?_ | refine blk_alloc ?_ _)); refine blk_put (cs := #[.slice none 0 0, .slice none 0 0]) ?_ 0 _ rfl; (with_reducible repeat (first | refine blk_drewN ?_ _ | refine blk_drew ?_ | refine blk_alloc ?_ _)); exact BK315.out) Try.underlying50 rfl (by kernel_rfl)) rfl ?_
             exact ⟨_, _, by first | rfl | (simp [errW_none, errW_some] <;> rfl) | (simp [*, errW_none, errW_some] <;> rfl), by (with_reducible repeat (first | apply Kd.R_alloc | apply Kd.R_drewN | apply Kd.R_drew)); exact Kd.R_mono (Kd.R_far (p := ⟨gb315, 1, none⟩) (Kd.R_far (p := ⟨gb315, 0, none⟩) (Kd.R_types HO343.out BK315.out (by decide)) (fun _ hk => hk.2) (.slice Ao65 y341.length co65)) (fun _ hk => hk.2) (.slice Ao71 y344.length co71)) (fun _ hk => trivial), by (with_reducible repeat (first | apply Kd.S_alloc | apply Kd.S_drewN | apply Kd.S_drew)); exact Kd.S_mono (Kd.S_far (p := ⟨gb315, 1, none⟩) (Kd.S_far (p := ⟨gb315, 0, none⟩) (Kd.S_types HO346.out BK315.out (by decide)) (fun _ hk => hk.2) (.slice Ao65 y341.length co65)) (fun _ hk => hk.2) (.slice Ao71 y344.length co71)) (fun _ hk => trivial), hbA HB⟩
            ·
             replace c45 := Bool.eq_false_iff.mpr c45
             subst c45
             have H1 : (some (([] : List Int), ([] : List (List Int)), false)) = some (r1, r2, r3) := by rw [if_neg (show ¬ (false = true) by decide)] at H; exact H
             clear H
             have H := H1
             clear H1
             simp only [Option.some.injEq, Prod.mk.injEq] at H
             obtain ⟨rfl, rfl, rfl⟩ := H
             try go_wp2
             have n0_ := Aside0.mk (Kd.R_drew HO_8.out)
             have n1_ := Aside0.mk (blk_drew BK314.out)
             have n2_ := Aside0.mk (blk_drew BK315.out)
             have n3_ := Aside0.mk (below_drew1 HB.out)
             clear HO_8
             clear BK314
             clear BK315
             clear HB
             have HO_8 := n0_
             have BK314 := n1_
             have BK315 := n2_
             have HB := n3_
             clear n0_ n1_ n2_ n3_
             obtain ⟨i078, hi078, _, hsz78, _⟩ := info_parts info3
             obtain ⟨hcut78, hA78, hC78⟩ := print_take_of (P := Try.prog) (Value.int .i64) 0 22 3 .i64 Try.underlying22 hi078 hsz78 A0_0 c0_0 l0_0 x6_18 (of_decide_eq_true asA) (of_decide_eq_true asA) HC0_0.out
             have HR329 := Aside0.mk (Kd.C_of_reads (h1 := fun _ => rfl) (hA78 _ (Kd.reads_of_C HR0_0.out)))
             have HC329 := Aside0.mk hC78
             clear hA78 hC78 hi078 hsz78
             have q79 : (x6_18 : Int) ≤ ((l0_1.length : Int) : Int) := of_decide_eq_true asA
             obtain ⟨i079, hi079, _, hsz79, _⟩ := info_parts info23
             have hroom79 : l0_1.length ≤ c0_1 := HC0_1.out
             have hC79 : Kd.C (Kd.slice 5 (Kd.int .u8)) _ A0_1 l0_1.length l0_1 := HR0_1.out
             have hcut79 := cut_to (P := Try.prog) 38 23 .i64 Try.underlying38 hi079 A0_1 l0_1.length c0_1 x6_18 (of_decide_eq_true asA) q79 hroom79
             have hr79 := Kd.C_take (m := (x6_18 : Int).toNat) hC79 (by omega)
             have hy79 : y333.length = (x6_18 : Int).toNat := (by rw [Ny333.out, List.length_take]; omega)
             rw [← Ny333.out] at hr79
             rw [← hy79] at hcut79
             have HR336 := Aside0.mk hr79
             have HC336 := Aside0.mk (show y333.length ≤ c0_1 from by omega)
             clear hr79 hC79 hroom79 hi079 hsz79
             have KY79 := Aside0.mk hy79
             clear hy79
             replace q79 := eq_true q79
             refine start_ (n := 14) (S := fun w' => w'.cell? ⟨gb314, 0, none⟩ = some (.slice A0_0 l0_0.length c0_0) ∧ w'.cell? ⟨gb314, 1, none⟩ = some (.slice A0_1 l0_1.length c0_1)) (ds := []) #[false, false, false, false, false, false, false, false, false, false, false, false, false, false] (by kernel_rfl) rfl rfl ⟨(blk_cell BK314.out 0).trans rfl, (blk_cell BK314.out 1).trans rfl⟩ (fun hHeld => ?_); refine with_tabW spec_StackPush.tab10 spec_StackPush.bits10 (fun HT_ HW_ => ?_)
             generalize wc.drew = w77 at HO_8 BK314 BK315 HB HR329 HR336 hHeld ⊢
             refine pure_ (i := 1) (N := some 49) (v := ?_) (a' := ?_) #[false, true, false, false, false, false, false, false, false, false, false, false, false, false] rfl rfl (any_of HT_.out (by kernel_rfl)) (fun _ _ _ h => h) (Or.inl ⟨by rfl, ?_⟩) ?_ ?_
             rotate_left
             ·
              intro w'
              go_simp
              with_reducible rfl
             rotate_left
             ·
              simp only [Act.put, List.setIfInBounds_toArray, List.set_cons_zero, List.set_cons_succ, i64_w, i32_w]
              rfl
             refine pure_ (i := 3) (N := some 51) (v := ?_) (a' := ?_) #[false, true, false, true, false, false, false, false, false, false, false, false, false, false] rfl rfl (any_of HT_.out (by kernel_rfl)) (fun _ _ _ h => h) (Or.inl ⟨by rfl, ?_⟩) ?_ ?_
             rotate_left
             ·
              intro w'
              go_simp
              with_reducible rfl
             rotate_left
             ·
              simp only [Act.put, List.setIfInBounds_toArray, List.set_cons_zero, List.set_cons_succ, i64_w, i32_w]
              rfl
             refine pure_ (i := 6) (N := some 54) (v := ?_) (a' := ?_) #[false, true, false, true, false, false, true, false, false, false, false, false, false, false] rfl rfl (any_of HT_.out (by kernel_rfl)) (fun _ _ _ h => h) (Or.inl ⟨by rfl, ?_⟩) ?_ ?_
             rotate_left
             ·
              intro w'
              go_simp
              with_reducible rfl
             rotate_left
             ·
              simp only [Act.put, List.setIfInBounds_toArray, List.set_cons_zero, List.set_cons_succ, i64_w, i32_w]
              rfl
             refine pure_ (i := 8) (N := some 56) (v := ?_) (a' := ?_) #[false, true, false, true, false, false, true, false, true, false, false, false, false, false] rfl rfl (any_of HT_.out (by kernel_rfl)) (fun _ _ _ h => h) (Or.inl ⟨by rfl, ?_⟩) ?_ ?_
             rotate_left
             ·
              intro w'
              go_simp
              with_reducible rfl
             rotate_left
             ·
              simp only [Act.put, List.setIfInBounds_toArray, List.set_cons_zero, List.set_cons_succ, i64_w, i32_w]
              rfl
             refine take_ (i := 2) (N := some 50) (v := ?_) (a' := ?_) #[false, true, true, true, false, false, true, false, true, false, false, false, false, false] rfl rfl (take_ofW HT_.out HW_.out (by kernel_rfl)) (fun _ _ _ h => h) (Or.inl ⟨by rfl, ?_⟩) hHeld ?_ ?_
             rotate_left
             ·
              rintro w' ⟨s0, s1⟩
              go_simp
              with_reducible rfl
             rotate_left
             ·
              simp only [Act.put, List.setIfInBounds_toArray, List.set_cons_zero, List.set_cons_succ, i64_w, i32_w]
              rfl
             refine pure_ (i := 4) (N := some 52) (v := ?_) (a' := ?_) #[false, true, true, true, true, false, true, false, true, false, false, false, false, false] rfl rfl (any_of HT_.out (by kernel_rfl)) (fun _ _ _ h => h) (Or.inl ⟨by rfl, ?_⟩) ?_ ?_
             rotate_left
             ·
              intro w'
              go_simp
              with_reducible rfl
             rotate_left
             ·
              simp only [Act.put, List.setIfInBounds_toArray, List.set_cons_zero, List.set_cons_succ, i64_w, i32_w]
              rfl
             refine take_ (i := 7) (N := some 55) (v := ?_) (a' := ?_) #[false, true, true, true, true, false, true, true, true, false, false, false, false, false] rfl rfl (take_ofW HT_.out HW_.out (by kernel_rfl)) (fun _ _ _ h => h) (Or.inl ⟨by rfl, ?_⟩) hHeld ?_ ?_
             rotate_left
             ·
              rintro w' ⟨s0, s1⟩
              go_simp
              with_reducible rfl
             rotate_left
             ·
              simp only [Act.put, List.setIfInBounds_toArray, List.set_cons_zero, List.set_cons_succ, i64_w, i32_w]
              rfl
             refine pure_ (i := 9) (N := some 57) (v := ?_) (a' := ?_) #[false, true, true, true, true, false, true, true, true, true, false, false, false, false] rfl rfl (any_of HT_.out (by kernel_rfl)) (fun _ _ _ h => h) (Or.inl ⟨by rfl, ?_⟩) ?_ ?_
             rotate_left
             ·
              intro w'
              go_simp
              with_reducible rfl
             rotate_left
             ·
              simp only [Act.put, List.setIfInBounds_toArray, List.set_cons_zero, List.set_cons_succ, i64_w, i32_w]
              rfl
             refine join_ (σ := Value × Value × Value × Nat) 1 #[true, true, true, true, true, true, true, true, true, true, true, true, true, false] (fun s_ => [(48, s_.1), (53, s_.2.1), (58, s_.2.2.1), (9, .pointer (some ⟨s_.2.2.2, 0, none⟩)), (59, .agg #[s_.2.1, s_.2.2.1])]) (fun s_ w' => (w'.cell? ⟨gb314, 0, none⟩ = some (.slice A0_0 l0_0.length c0_0) ∧ w'.cell? ⟨gb314, 1, none⟩ = some (.slice A0_1 l0_1.length c0_1)) ∧ (Kd.R (Kd.int .i64) 3 w' w.heap.size (fun _ => True) s_.2.1 y330) ∧ (Kd.S (Kd.slice 5 (Kd.int .u8)) 23 w' w.heap.size (fun k_ => some k_ ≠ (u8 : Value).ownBlock) s_.2.2.1 t337) ∧ (Kd.R (Kd.int .u8) 5 w' w.heap.size (fun _ => True) u8 x8_18) ∧ (w'.heap[gb314]? = some (.cells #[.slice A0_0 l0_0.length c0_0, .slice A0_1 l0_1.length c0_1] 50 (0, 0))) ∧ (w'.heap[gb315]? = some (.cells #[.slice none 0 0, .slice none 0 0] 50 (0, 0))) ∧ (w'.heap[s_.2.2.2]? = some (.cells #[.slice none 0 0, .slice none 0 0] 50 (0, 0))) ∧ (w.heap.size ≤ s_.2.2.2) ∧ (w.heap.size ≤ s_.2.2.2) ∧ (gb314 ≠ s_.2.2.2) ∧ (s_.2.2.2 ≠ gb314) ∧ (gb315 ≠ s_.2.2.2) ∧ (s_.2.2.2 ≠ gb315) ∧ (Below w.heap.size w w')) ?_ ?_
             rotate_left
             ·
              intro hCont
              refine two_ (i := 0) (j := 12) (Ni := some 48) (Nj := some 9) #[true, true, true, true, true, false, true, true, true, true, false, false, false, false] #[false, true, true, true, true, false, true, true, true, true, false, false, true, false] rfl rfl rfl rfl (two_of HT_.out (by kernel_rfl)) (by decide) (by decide) (fun K hK => ?_) (fun K hK => ?_)
              ·
               skip
               refine Kd.R_lit_step (Kd.int .i64) _ 3 ?hg (N := 48) ?hd (xs := ([] : List Int)) (inner := []) (ok := fun _ => True) (okp := fun _ => True) ?hr ?hp (fun _ hk => hk) trivial (Below.refl _ _) (Nat.le_refl _) (by simp) ?_; (case hd => rfl); (case hg => rfl); (case hr => first | (go_simp; done) | (go_simp; rfl)); (case hp => exact (Reps.none _ _))
               intro v327 w80 ho81 hb hg_ hnew_
               clear hg_ hnew_
               (first | rw [← Ny326.out] at ho81 | (simp only [Int.reduceToNat] at ho81; rw [← Ny326.out] at ho81))
               have n0_ := Aside0.mk (Kd.R_below (rA HO_8.out) hb)
               have n1_ := Aside0.mk (Kd.R_lower ho81 (below_size (hbA HB)))
               have n2_ := Aside0.mk (blk_below (g := gb314) (o := .cells #[.slice A0_0 l0_0.length c0_0, .slice A0_1 l0_1.length c0_1] 50 (0, 0)) (bkA BK314.out) hb)
               have n3_ := Aside0.mk (blk_below (g := gb315) (o := .cells #[.slice none 0 0, .slice none 0 0] 50 (0, 0)) (bkA BK315.out) hb)
               have n4_ := Aside0.mk (below_step (hbA HB) hb)
               clear HO_8
               clear BK314
               clear BK315
               clear HB
               have HO_8 := n0_
               have HO328 := n1_
               have BK314 := n2_
               have BK315 := n3_
               have HB := n4_
               clear n0_ n1_ n2_ n3_ n4_
               clear hb ho81
               refine hK.out _ _ ⟨(blk_cell BK314.out 0).trans rfl, (blk_cell BK314.out 1).trans rfl⟩ (fun hHeld => ?_)
               clear hK K
               refine norm_ (a' := ?_) ?_ ?_
               rotate_left
               ·
                show Act.put _ (some 48) _ = _
                simp only [Act.put, List.setIfInBounds_toArray, List.set_cons_zero, List.set_cons_succ, i64_w, i32_w]
                rfl
               refine two_ (i := 5) (j := 12) (Ni := some 53) (Nj := some 9) #[true, true, true, true, true, true, true, true, true, true, false, false, false, false] #[true, true, true, true, true, false, true, true, true, true, false, false, true, false] rfl rfl rfl rfl (two_of HT_.out (by kernel_rfl)) (by decide) (by decide) (fun K hK => ?_) (fun K hK => ?_)
               ·
                skip
                refine Kd.R_append_rows_step (Kd.int .i64) (w0 := w) w.heap.size (by rfl) (.tmp 48) (.tmp 52) 22 3 (.int .i64 0) 8 rfl Try.underlying22 info3 rfl (by decide) (by omega) v327 y326 (l0_0.take (x6_18 : Int).toNat) _ _ _ (fun _ => True) (fun _ => False) rfl rfl ?aO ?aR (fun _ _ h => h) (fun _ h => h.elim) ?aF ?aB ?aS ?aL ?_
                (case aR => first | (have q_ := Kd.C_below HR329.out (hbA HB); rw [show (l0_0.take (x6_18 : Int).toNat).length = x6_18.toNat from (by rw [List.length_take]; have h_ : (x6_18 : Int) ≤ (l0_0.length : Int) := of_decide_eq_true asA; omega)] at q_; exact q_) | (rw [← show (l0_0.take (x6_18 : Int).toNat).length = x6_18.toNat from (by rw [List.length_take]; have h_ : (x6_18 : Int) ≤ (l0_0.length : Int) := of_decide_eq_true asA; omega)]; exact cA (Kd.C_below HR329.out HB.out)) | (exact cA (Kd.C_below HR329.out HB.out)))
                (case aB => exact (hbA HB))
                (case aF => exact (fun _ _ => trivial))
                (case aO => exact (rA HO328.out))
                (case aS => exact (below_size (hbA HB)))
                (case aL => have := LMc38.out; have hlx_ := (show (l0_0.take (x6_18 : Int).toNat).length = x6_18.toNat from (by rw [List.length_take]; have h_ : (x6_18 : Int) ≤ (l0_0.length : Int) := of_decide_eq_true asA; omega)); omega)
                intro v331 w82 ho hb hg hat
                rw [← Ny330.out] at ho
                have n0_ := Aside0.mk (Kd.R_over' (rA HO_8.out) (Kd.R_typed (rA HO328.out)) (by decide) hg)
                have n1_ := Aside0.mk (blk_grown (g := gb314) (o := .cells #[.slice A0_0 l0_0.length c0_0, .slice A0_1 l0_1.length c0_1] 50 (0, 0)) (bkA BK314.out) hg (Kd.R_ne HO328.out BK314.out (by decide)))
                have n2_ := Aside0.mk (blk_grown (g := gb315) (o := .cells #[.slice none 0 0, .slice none 0 0] 50 (0, 0)) (bkA BK315.out) hg (Kd.R_ne HO328.out BK315.out (by decide)))
                have n3_ := Aside0.mk (hb)
                have n4_ := Aside0.mk (ho)
                clear HO_8
                clear BK314
                clear BK315
                clear HB
                clear HO328
                have HO_8 := n0_
                have BK314 := n1_
                have BK315 := n2_
                have HB := n3_
                have HO332 := n4_
                clear n0_ n1_ n2_ n3_ n4_
                clear ho hb hg hat
                refine hK.out _ _ ⟨(blk_cell BK314.out 0).trans rfl, (blk_cell BK314.out 1).trans rfl⟩ (fun hHeld => ?_)
                clear hK K
                refine norm_ (a' := ?_) ?_ ?_
                rotate_left
                ·
                 show Act.put _ (some 53) _ = _
                 simp only [Act.put, List.setIfInBounds_toArray, List.set_cons_zero, List.set_cons_succ, i64_w, i32_w]
                 rfl
                refine two_ (i := 10) (j := 12) (Ni := some 58) (Nj := some 9) #[true, true, true, true, true, true, true, true, true, true, true, false, false, false] #[true, true, true, true, true, true, true, true, true, true, false, false, true, false] rfl rfl rfl rfl (two_of HT_.out (by kernel_rfl)) (by decide) (by decide) (fun K hK => ?_) (fun K hK => ?_)
                ·
                 skip
                 refine goes_ Try.func95 (by kernel_rfl) rfl #[.slice A0_1 y333.length c0_1] (by rfl) rfl rfl mtA ?_
                 with_reducible refine (spec_l06Copy.calls kj18 _ _ y333 t337 _ ?side1 ?side2 A41.out).mono ?_
                 (case side1 => exact cA (Kd.C_below HR336.out HB.out))
                 (case side2 => exact HC336.out)
                 rintro e w83 ⟨v338, rfl, ho0, hb⟩
                 refine ⟨_, rfl, ?_⟩
                 have n0_ := Aside0.mk (Kd.R_below (rA HO_8.out) hb)
                 have n1_ := Aside0.mk (Kd.R_below (rA HO332.out) hb)
                 have n2_ := Aside0.mk (Kd.S_lower (Kd.S_new' ho0 (Kd.R_lt (rA HO_8.out))) (below_size (hbA HB)))
                 have n3_ := Aside0.mk (blk_below (g := gb314) (o := .cells #[.slice A0_0 l0_0.length c0_0, .slice A0_1 l0_1.length c0_1] 50 (0, 0)) (bkA BK314.out) hb)
                 have n4_ := Aside0.mk (blk_below (g := gb315) (o := .cells #[.slice none 0 0, .slice none 0 0] 50 (0, 0)) (bkA BK315.out) hb)
                 have n5_ := Aside0.mk (below_step (hbA HB) hb)
                 clear HO_8
                 clear HO332
                 clear BK314
                 clear BK315
                 clear HB
                 have HO_8 := n0_
                 have HO332 := n1_
                 have HO339 := n2_
                 have BK314 := n3_
                 have BK315 := n4_
                 have HB := n5_
                 clear n0_ n1_ n2_ n3_ n4_ n5_
                 (try clear hb)
                 (try clear hb2)
                 (try clear hk)
                 (try clear hi)
                 (try clear ho0)
                 obtain ⟨Ao84, co84, eo84⟩ := Kd.S_slice HO339.out
                 (first | subst eo84 | (injection eo84 with f1_ f2_ f3_; have f4_ := f1_.symm; have f5_ := f3_.symm; clear f1_ f2_ f3_; subst f4_; subst f5_))
                 obtain ⟨Ao85, co85, eo85⟩ := Kd.R_slice HO332.out
                 (first | subst eo85 | (injection eo85 with f1_ f2_ f3_; have f4_ := f1_.symm; have f5_ := f3_.symm; clear f1_ f2_ f3_; subst f4_; subst f5_))
                 refine hK.out _ _ ⟨(blk_cell BK314.out 0).trans rfl, (blk_cell BK314.out 1).trans rfl⟩ (fun hHeld => ?_)
                 clear hK K
                 refine norm_ (a' := ?_) ?_ ?_
                 rotate_left
                 ·
                  show Act.put _ (some 58) _ = _
                  simp only [Act.put, List.setIfInBounds_toArray, List.set_cons_zero, List.set_cons_succ, i64_w, i32_w]
                  rfl
                 refine pure_ (i := 11) (N := some 59) (v := ?_) (a' := ?_) #[true, true, true, true, true, true, true, true, true, true, true, true, false, false] rfl rfl (any_of HT_.out (by kernel_rfl)) (fun _ _ _ h => h) (Or.inl ⟨by rfl, ?_⟩) ?_ ?_
                 rotate_left
                 ·
                  intro w'
                  go_simp
                  with_reducible rfl
                 rotate_left
                 ·
                  simp only [Act.put, List.setIfInBounds_toArray, List.set_cons_zero, List.set_cons_succ, i64_w, i32_w]
                  rfl
                 refine one_ (i := 12) (N := some 9) #[true, true, true, true, true, true, true, true, true, true, true, true, true, false] rfl rfl (one_of HT_.out (by kernel_rfl)) (by decide) (fun K hK => ?_)
                 refine box_step ?hg (N := 9) ?hd (cs := #[.slice none 0 0, .slice none 0 0]) (t := 50) ?hr ?_; (case hd => rfl); (case hg => rfl); (case hr => first | (go_simp; done) | (go_simp; rfl))
                 intro gb340 hg w86 hbox hb
                 have n0_ := Aside0.mk (Kd.R_below (rA HO_8.out) hb)
                 have n1_ := Aside0.mk (Kd.R_below (rA HO332.out) hb)
                 have n2_ := Aside0.mk (Kd.S_below (sA HO339.out) hb)
                 have n3_ := Aside0.mk (blk_below (g := gb314) (o := .cells #[.slice A0_0 l0_0.length c0_0, .slice A0_1 l0_1.length c0_1] 50 (0, 0)) (bkA BK314.out) hb)
                 have n4_ := Aside0.mk (blk_below (g := gb315) (o := .cells #[.slice none 0 0, .slice none 0 0] 50 (0, 0)) (bkA BK315.out) hb)
                 have n5_ := Aside0.mk (below_step (hbA HB) hb)
                 have n6_ := Aside0.mk (hbox)
                 have n7_ := Aside0.mk ((by rw [hg]; exact (below_size (hbA HB)) : w.heap.size ≤ gb340))
                 have n8_ := Aside0.mk ((by rw [hg]; exact (below_size (hbA HB)) : w.heap.size ≤ gb340))
                 have n9_ := Aside0.mk ((by rw [hg]; exact Nat.ne_of_lt (blk_lt (g := gb314) (o := .cells #[.slice A0_0 l0_0.length c0_0, .slice A0_1 l0_1.length c0_1] 50 (0, 0)) (bkA BK314.out)) : gb314 ≠ gb340))
                 have n10_ := Aside0.mk ((by rw [hg]; exact Nat.ne_of_gt (blk_lt (g := gb314) (o := .cells #[.slice A0_0 l0_0.length c0_0, .slice A0_1 l0_1.length c0_1] 50 (0, 0)) (bkA BK314.out)) : gb340 ≠ gb314))
                 have n11_ := Aside0.mk ((by rw [hg]; exact Nat.ne_of_lt (blk_lt (g := gb315) (o := .cells #[.slice none 0 0, .slice none 0 0] 50 (0, 0)) (bkA BK315.out)) : gb315 ≠ gb340))
                 have n12_ := Aside0.mk ((by rw [hg]; exact Nat.ne_of_gt (blk_lt (g := gb315) (o := .cells #[.slice none 0 0, .slice none 0 0] 50 (0, 0)) (bkA BK315.out)) : gb340 ≠ gb315))
                 clear HO_8
                 clear HO332
                 clear HO339
                 clear BK314
                 clear BK315
                 clear HB
                 have HO_8 := n0_
                 have HO332 := n1_
                 have HO339 := n2_
                 have BK314 := n3_
                 have BK315 := n4_
                 have HB := n5_
                 have BK340 := n6_
                 have GW340 := n7_
                 have GE340 := n8_
                 have NB314_340 := n9_
                 have NB340_314 := n10_
                 have NB315_340 := n11_
                 have NB340_315 := n12_
                 clear n0_ n1_ n2_ n3_ n4_ n5_ n6_ n7_ n8_ n9_ n10_ n11_ n12_
                 clear hb hbox hg
                 refine hK.out _ _ ⟨(blk_cell BK314.out 0).trans rfl, (blk_cell BK314.out 1).trans rfl⟩ (fun hHeld => ?_)
                 clear hK K
                 refine norm_ (a' := ?_) ?_ ?_
                 rotate_left
                 ·
                  show Act.put _ (some 9) _ = _
                  simp only [Act.put, List.setIfInBounds_toArray, List.set_cons_zero, List.set_cons_succ, i64_w, i32_w]
                  rfl
                 exact norm_ (by simp only [putAll, Act.put, List.setIfInBounds_toArray, List.set_cons_zero, List.set_cons_succ]) (hCont (v327, .slice Ao85 y330.length co85, .slice Ao84 t337.length co84, gb340) _ ⟨hHeld, (rA HO332.out), (by (with_reducible repeat (first | apply Kd.S_alloc | apply Kd.S_drewN | apply Kd.S_drew)); exact Kd.S_mono HO339.out (fun _ hk => hk.2)), (rA HO_8.out), (bkA BK314.out), (bkA BK315.out), (bkA BK340.out), GW340.out, GE340.out, NB314_340.out, NB340_314.out, NB315_340.out, NB340_315.out, (hbA HB)⟩)
                ·
                 skip
                 refine box_step ?hg (N := 9) ?hd (cs := #[.slice none 0 0, .slice none 0 0]) (t := 50) ?hr ?_; (case hd => rfl); (case hg => rfl); (case hr => first | (go_simp; done) | (go_simp; rfl))
                 intro gb340 hg w83 hbox hb
                 have n0_ := Aside0.mk (Kd.R_below (rA HO_8.out) hb)
                 have n1_ := Aside0.mk (Kd.R_below (rA HO332.out) hb)
                 have n2_ := Aside0.mk (blk_below (g := gb314) (o := .cells #[.slice A0_0 l0_0.length c0_0, .slice A0_1 l0_1.length c0_1] 50 (0, 0)) (bkA BK314.out) hb)
                 have n3_ := Aside0.mk (blk_below (g := gb315) (o := .cells #[.slice none 0 0, .slice none 0 0] 50 (0, 0)) (bkA BK315.out) hb)
                 have n4_ := Aside0.mk (below_step (hbA HB) hb)
                 have n5_ := Aside0.mk (hbox)
                 have n6_ := Aside0.mk ((by rw [hg]; exact (below_size (hbA HB)) : w.heap.size ≤ gb340))
                 have n7_ := Aside0.mk ((by rw [hg]; exact (below_size (hbA HB)) : w.heap.size ≤ gb340))
                 have n8_ := Aside0.mk ((by rw [hg]; exact Nat.ne_of_lt (blk_lt (g := gb314) (o := .cells #[.slice A0_0 l0_0.length c0_0, .slice A0_1 l0_1.length c0_1] 50 (0, 0)) (bkA BK314.out)) : gb314 ≠ gb340))
                 have n9_ := Aside0.mk ((by rw [hg]; exact Nat.ne_of_gt (blk_lt (g := gb314) (o := .cells #[.slice A0_0 l0_0.length c0_0, .slice A0_1 l0_1.length c0_1] 50 (0, 0)) (bkA BK314.out)) : gb340 ≠ gb314))
                 have n10_ := Aside0.mk ((by rw [hg]; exact Nat.ne_of_lt (blk_lt (g := gb315) (o := .cells #[.slice none 0 0, .slice none 0 0] 50 (0, 0)) (bkA BK315.out)) : gb315 ≠ gb340))
                 have n11_ := Aside0.mk ((by rw [hg]; exact Nat.ne_of_gt (blk_lt (g := gb315) (o := .cells #[.slice none 0 0, .slice none 0 0] 50 (0, 0)) (bkA BK315.out)) : gb340 ≠ gb315))
                 clear HO_8
                 clear HO332
                 clear BK314
                 clear BK315
                 clear HB
                 have HO_8 := n0_
                 have HO332 := n1_
                 have BK314 := n2_
                 have BK315 := n3_
                 have HB := n4_
                 have BK340 := n5_
                 have GW340 := n6_
                 have GE340 := n7_
                 have NB314_340 := n8_
                 have NB340_314 := n9_
                 have NB315_340 := n10_
                 have NB340_315 := n11_
                 clear n0_ n1_ n2_ n3_ n4_ n5_ n6_ n7_ n8_ n9_ n10_ n11_
                 clear hb hbox hg
                 refine hK.out _ _ ⟨(blk_cell BK314.out 0).trans rfl, (blk_cell BK314.out 1).trans rfl⟩ (fun hHeld => ?_)
                 clear hK K
                 refine norm_ (a' := ?_) ?_ ?_
                 rotate_left
                 ·
                  show Act.put _ (some 9) _ = _
                  simp only [Act.put, List.setIfInBounds_toArray, List.set_cons_zero, List.set_cons_succ, i64_w, i32_w]
                  rfl
                 refine one_ (i := 10) (N := some 58) #[true, true, true, true, true, true, true, true, true, true, true, false, true, false] rfl rfl (one_of HT_.out (by kernel_rfl)) (by decide) (fun K hK => ?_)
                 refine goes_ Try.func95 (by kernel_rfl) rfl #[.slice A0_1 y333.length c0_1] (by rfl) rfl rfl mtA ?_
                 with_reducible refine (spec_l06Copy.calls kj18 _ _ y333 t337 _ ?side1 ?side2 A41.out).mono ?_
                 (case side1 => exact cA (Kd.C_below HR336.out HB.out))
                 (case side2 => exact HC336.out)
                 rintro e w84 ⟨v338, rfl, ho0, hb⟩
                 refine ⟨_, rfl, ?_⟩
                 have n0_ := Aside0.mk (Kd.R_below (rA HO_8.out) hb)
                 have n1_ := Aside0.mk (Kd.R_below (rA HO332.out) hb)
                 have n2_ := Aside0.mk (Kd.S_lower (Kd.S_new' ho0 (Kd.R_lt (rA HO_8.out))) (below_size (hbA HB)))
                 have n3_ := Aside0.mk (blk_below (g := gb314) (o := .cells #[.slice A0_0 l0_0.length c0_0, .slice A0_1 l0_1.length c0_1] 50 (0, 0)) (bkA BK314.out) hb)
                 have n4_ := Aside0.mk (blk_below (g := gb315) (o := .cells #[.slice none 0 0, .slice none 0 0] 50 (0, 0)) (bkA BK315.out) hb)
                 have n5_ := Aside0.mk (blk_below (g := gb340) (o := .cells #[.slice none 0 0, .slice none 0 0] 50 (0, 0)) (bkA BK340.out) hb)
                 have n6_ := Aside0.mk (below_step (hbA HB) hb)
                 clear HO_8
                 clear HO332
                 clear BK314
                 clear BK315
                 clear BK340
                 clear HB
                 have HO_8 := n0_
                 have HO332 := n1_
                 have HO339 := n2_
                 have BK314 := n3_
                 have BK315 := n4_
                 have BK340 := n5_
                 have HB := n6_
                 clear n0_ n1_ n2_ n3_ n4_ n5_ n6_
                 (try clear hb)
                 (try clear hb2)
                 (try clear hk)
                 (try clear hi)
                 (try clear ho0)
                 obtain ⟨Ao85, co85, eo85⟩ := Kd.S_slice HO339.out
                 (first | subst eo85 | (injection eo85 with f1_ f2_ f3_; have f4_ := f1_.symm; have f5_ := f3_.symm; clear f1_ f2_ f3_; subst f4_; subst f5_))
                 obtain ⟨Ao86, co86, eo86⟩ := Kd.R_slice HO332.out
                 (first | subst eo86 | (injection eo86 with f1_ f2_ f3_; have f4_ := f1_.symm; have f5_ := f3_.symm; clear f1_ f2_ f3_; subst f4_; subst f5_))
                 refine hK.out _ _ ⟨(blk_cell BK314.out 0).trans rfl, (blk_cell BK314.out 1).trans rfl⟩ (fun hHeld => ?_)
                 clear hK K
                 refine norm_ (a' := ?_) ?_ ?_
                 rotate_left
                 ·
                  show Act.put _ (some 58) _ = _
                  simp only [Act.put, List.setIfInBounds_toArray, List.set_cons_zero, List.set_cons_succ, i64_w, i32_w]
                  rfl
                 refine pure_ (i := 11) (N := some 59) (v := ?_) (a' := ?_) #[true, true, true, true, true, true, true, true, true, true, true, true, true, false] rfl rfl (any_of HT_.out (by kernel_rfl)) (fun _ _ _ h => h) (Or.inl ⟨by rfl, ?_⟩) ?_ ?_
                 rotate_left
                 ·
                  intro w'
                  go_simp
                  with_reducible rfl
                 rotate_left
                 ·
                  simp only [Act.put, List.setIfInBounds_toArray, List.set_cons_zero, List.set_cons_succ, i64_w, i32_w]
                  rfl
                 exact norm_ (by simp only [putAll, Act.put, List.setIfInBounds_toArray, List.set_cons_zero, List.set_cons_succ]) (hCont (v327, .slice Ao86 y330.length co86, .slice Ao85 t337.length co85, gb340) _ ⟨hHeld, (rA HO332.out), (by (with_reducible repeat (first | apply Kd.S_alloc | apply Kd.S_drewN | apply Kd.S_drew)); exact Kd.S_mono HO339.out (fun _ hk => hk.2)), (rA HO_8.out), (bkA BK314.out), (bkA BK315.out), (bkA BK340.out), GW340.out, GE340.out, NB314_340.out, NB340_314.out, NB315_340.out, NB340_315.out, (hbA HB)⟩)
               ·
                skip
                refine box_step ?hg (N := 9) ?hd (cs := #[.slice none 0 0, .slice none 0 0]) (t := 50) ?hr ?_; (case hd => rfl); (case hg => rfl); (case hr => first | (go_simp; done) | (go_simp; rfl))
                intro gb340 hg w82 hbox hb
                have n0_ := Aside0.mk (Kd.R_below (rA HO_8.out) hb)
                have n1_ := Aside0.mk (Kd.R_below (rA HO328.out) hb)
                have n2_ := Aside0.mk (blk_below (g := gb314) (o := .cells #[.slice A0_0 l0_0.length c0_0, .slice A0_1 l0_1.length c0_1] 50 (0, 0)) (bkA BK314.out) hb)
                have n3_ := Aside0.mk (blk_below (g := gb315) (o := .cells #[.slice none 0 0, .slice none 0 0] 50 (0, 0)) (bkA BK315.out) hb)
                have n4_ := Aside0.mk (below_step (hbA HB) hb)
                have n5_ := Aside0.mk (hbox)
                have n6_ := Aside0.mk ((by rw [hg]; exact (below_size (hbA HB)) : w.heap.size ≤ gb340))
                have n7_ := Aside0.mk ((by rw [hg]; exact (below_size (hbA HB)) : w.heap.size ≤ gb340))
                have n8_ := Aside0.mk ((by rw [hg]; exact Nat.ne_of_lt (blk_lt (g := gb314) (o := .cells #[.slice A0_0 l0_0.length c0_0, .slice A0_1 l0_1.length c0_1] 50 (0, 0)) (bkA BK314.out)) : gb314 ≠ gb340))
                have n9_ := Aside0.mk ((by rw [hg]; exact Nat.ne_of_gt (blk_lt (g := gb314) (o := .cells #[.slice A0_0 l0_0.length c0_0, .slice A0_1 l0_1.length c0_1] 50 (0, 0)) (bkA BK314.out)) : gb340 ≠ gb314))
                have n10_ := Aside0.mk ((by rw [hg]; exact Nat.ne_of_lt (blk_lt (g := gb315) (o := .cells #[.slice none 0 0, .slice none 0 0] 50 (0, 0)) (bkA BK315.out)) : gb315 ≠ gb340))
                have n11_ := Aside0.mk ((by rw [hg]; exact Nat.ne_of_gt (blk_lt (g := gb315) (o := .cells #[.slice none 0 0, .slice none 0 0] 50 (0, 0)) (bkA BK315.out)) : gb340 ≠ gb315))
                clear HO_8
                clear HO328
                clear BK314
                clear BK315
                clear HB
                have HO_8 := n0_
                have HO328 := n1_
                have BK314 := n2_
                have BK315 := n3_
                have HB := n4_
                have BK340 := n5_
                have GW340 := n6_
                have GE340 := n7_
                have NB314_340 := n8_
                have NB340_314 := n9_
                have NB315_340 := n10_
                have NB340_315 := n11_
                clear n0_ n1_ n2_ n3_ n4_ n5_ n6_ n7_ n8_ n9_ n10_ n11_
                clear hb hbox hg
                refine hK.out _ _ ⟨(blk_cell BK314.out 0).trans rfl, (blk_cell BK314.out 1).trans rfl⟩ (fun hHeld => ?_)
                clear hK K
                refine norm_ (a' := ?_) ?_ ?_
                rotate_left
                ·
                 show Act.put _ (some 9) _ = _
                 simp only [Act.put, List.setIfInBounds_toArray, List.set_cons_zero, List.set_cons_succ, i64_w, i32_w]
                 rfl
                refine one_ (i := 5) (N := some 53) #[true, true, true, true, true, true, true, true, true, true, false, false, true, false] rfl rfl (one_of HT_.out (by kernel_rfl)) (by decide) (fun K hK => ?_)
                refine Kd.R_append_rows_step (Kd.int .i64) (w0 := w) w.heap.size (by rfl) (.tmp 48) (.tmp 52) 22 3 (.int .i64 0) 8 rfl Try.underlying22 info3 rfl (by decide) (by omega) v327 y326 (l0_0.take (x6_18 : Int).toNat) _ _ _ (fun _ => True) (fun _ => False) rfl rfl ?aO ?aR (fun _ _ h => h) (fun _ h => h.elim) ?aF ?aB ?aS ?aL ?_
                (case aR => first | (have q_ := Kd.C_below HR329.out (hbA HB); rw [show (l0_0.take (x6_18 : Int).toNat).length = x6_18.toNat from (by rw [List.length_take]; have h_ : (x6_18 : Int) ≤ (l0_0.length : Int) := of_decide_eq_true asA; omega)] at q_; exact q_) | (rw [← show (l0_0.take (x6_18 : Int).toNat).length = x6_18.toNat from (by rw [List.length_take]; have h_ : (x6_18 : Int) ≤ (l0_0.length : Int) := of_decide_eq_true asA; omega)]; exact cA (Kd.C_below HR329.out HB.out)) | (exact cA (Kd.C_below HR329.out HB.out)))
                (case aB => exact (hbA HB))
                (case aF => exact (fun _ _ => trivial))
                (case aO => exact (rA HO328.out))
                (case aS => exact (below_size (hbA HB)))
                (case aL => have := LMc38.out; have hlx_ := (show (l0_0.take (x6_18 : Int).toNat).length = x6_18.toNat from (by rw [List.length_take]; have h_ : (x6_18 : Int) ≤ (l0_0.length : Int) := of_decide_eq_true asA; omega)); omega)
                intro v331 w83 ho hb hg hat
                rw [← Ny330.out] at ho
                have n0_ := Aside0.mk (Kd.R_over' (rA HO_8.out) (Kd.R_typed (rA HO328.out)) (by decide) hg)
                have n1_ := Aside0.mk (blk_grown (g := gb314) (o := .cells #[.slice A0_0 l0_0.length c0_0, .slice A0_1 l0_1.length c0_1] 50 (0, 0)) (bkA BK314.out) hg (Kd.R_ne HO328.out BK314.out (by decide)))
                have n2_ := Aside0.mk (blk_grown (g := gb315) (o := .cells #[.slice none 0 0, .slice none 0 0] 50 (0, 0)) (bkA BK315.out) hg (Kd.R_ne HO328.out BK315.out (by decide)))
                have n3_ := Aside0.mk (blk_grown (g := gb340) (o := .cells #[.slice none 0 0, .slice none 0 0] 50 (0, 0)) (bkA BK340.out) hg (Kd.R_ne HO328.out BK340.out (by decide)))
                have n4_ := Aside0.mk (hb)
                have n5_ := Aside0.mk (ho)
                clear HO_8
                clear BK314
                clear BK315
                clear BK340
                clear HB
                clear HO328
                have HO_8 := n0_
                have BK314 := n1_
                have BK315 := n2_
                have BK340 := n3_
                have HB := n4_
                have HO332 := n5_
                clear n0_ n1_ n2_ n3_ n4_ n5_
                clear ho hb hg hat
                refine hK.out _ _ ⟨(blk_cell BK314.out 0).trans rfl, (blk_cell BK314.out 1).trans rfl⟩ (fun hHeld => ?_)
                clear hK K
                refine norm_ (a' := ?_) ?_ ?_
                rotate_left
                ·
                 show Act.put _ (some 53) _ = _
                 simp only [Act.put, List.setIfInBounds_toArray, List.set_cons_zero, List.set_cons_succ, i64_w, i32_w]
                 rfl
                refine one_ (i := 10) (N := some 58) #[true, true, true, true, true, true, true, true, true, true, true, false, true, false] rfl rfl (one_of HT_.out (by kernel_rfl)) (by decide) (fun K hK => ?_)
                refine goes_ Try.func95 (by kernel_rfl) rfl #[.slice A0_1 y333.length c0_1] (by rfl) rfl rfl mtA ?_
                with_reducible refine (spec_l06Copy.calls kj18 _ _ y333 t337 _ ?side1 ?side2 A41.out).mono ?_
                (case side1 => exact cA (Kd.C_below HR336.out HB.out))
                (case side2 => exact HC336.out)
                rintro e w84 ⟨v338, rfl, ho0, hb⟩
                refine ⟨_, rfl, ?_⟩
                have n0_ := Aside0.mk (Kd.R_below (rA HO_8.out) hb)
                have n1_ := Aside0.mk (Kd.R_below (rA HO332.out) hb)
                have n2_ := Aside0.mk (Kd.S_lower (Kd.S_new' ho0 (Kd.R_lt (rA HO_8.out))) (below_size (hbA HB)))
                have n3_ := Aside0.mk (blk_below (g := gb314) (o := .cells #[.slice A0_0 l0_0.length c0_0, .slice A0_1 l0_1.length c0_1] 50 (0, 0)) (bkA BK314.out) hb)
                have n4_ := Aside0.mk (blk_below (g := gb315) (o := .cells #[.slice none 0 0, .slice none 0 0] 50 (0, 0)) (bkA BK315.out) hb)
                have n5_ := Aside0.mk (blk_below (g := gb340) (o := .cells #[.slice none 0 0, .slice none 0 0] 50 (0, 0)) (bkA BK340.out) hb)
                have n6_ := Aside0.mk (below_step (hbA HB) hb)
                clear HO_8
                clear HO332
                clear BK314
                clear BK315
                clear BK340
                clear HB
                have HO_8 := n0_
                have HO332 := n1_
                have HO339 := n2_
                have BK314 := n3_
                have BK315 := n4_
                have BK340 := n5_
                have HB := n6_
                clear n0_ n1_ n2_ n3_ n4_ n5_ n6_
                (try clear hb)
                (try clear hb2)
                (try clear hk)
                (try clear hi)
                (try clear ho0)
                obtain ⟨Ao85, co85, eo85⟩ := Kd.S_slice HO339.out
                (first | subst eo85 | (injection eo85 with f1_ f2_ f3_; have f4_ := f1_.symm; have f5_ := f3_.symm; clear f1_ f2_ f3_; subst f4_; subst f5_))
                obtain ⟨Ao86, co86, eo86⟩ := Kd.R_slice HO332.out
                (first | subst eo86 | (injection eo86 with f1_ f2_ f3_; have f4_ := f1_.symm; have f5_ := f3_.symm; clear f1_ f2_ f3_; subst f4_; subst f5_))
                refine hK.out _ _ ⟨(blk_cell BK314.out 0).trans rfl, (blk_cell BK314.out 1).trans rfl⟩ (fun hHeld => ?_)
                clear hK K
                refine norm_ (a' := ?_) ?_ ?_
                rotate_left
                ·
                 show Act.put _ (some 58) _ = _
                 simp only [Act.put, List.setIfInBounds_toArray, List.set_cons_zero, List.set_cons_succ, i64_w, i32_w]
                 rfl
                refine pure_ (i := 11) (N := some 59) (v := ?_) (a' := ?_) #[true, true, true, true, true, true, true, true, true, true, true, true, true, false] rfl rfl (any_of HT_.out (by kernel_rfl)) (fun _ _ _ h => h) (Or.inl ⟨by rfl, ?_⟩) ?_ ?_
                rotate_left
                ·
                 intro w'
                 go_simp
                 with_reducible rfl
                rotate_left
                ·
                 simp only [Act.put, List.setIfInBounds_toArray, List.set_cons_zero, List.set_cons_succ, i64_w, i32_w]
                 rfl
                exact norm_ (by simp only [putAll, Act.put, List.setIfInBounds_toArray, List.set_cons_zero, List.set_cons_succ]) (hCont (v327, .slice Ao86 y330.length co86, .slice Ao85 t337.length co85, gb340) _ ⟨hHeld, (rA HO332.out), (by (with_reducible repeat (first | apply Kd.S_alloc | apply Kd.S_drewN | apply Kd.S_drew)); exact Kd.S_mono HO339.out (fun _ hk => hk.2)), (rA HO_8.out), (bkA BK314.out), (bkA BK315.out), (bkA BK340.out), GW340.out, GE340.out, NB314_340.out, NB340_314.out, NB315_340.out, NB340_315.out, (hbA HB)⟩)
              ·
               skip
               refine box_step ?hg (N := 9) ?hd (cs := #[.slice none 0 0, .slice none 0 0]) (t := 50) ?hr ?_; (case hd => rfl); (case hg => rfl); (case hr => first | (go_simp; done) | (go_simp; rfl))
               intro gb340 hg w80 hbox hb
               have n0_ := Aside0.mk (Kd.R_below (rA HO_8.out) hb)
               have n1_ := Aside0.mk (blk_below (g := gb314) (o := .cells #[.slice A0_0 l0_0.length c0_0, .slice A0_1 l0_1.length c0_1] 50 (0, 0)) (bkA BK314.out) hb)
               have n2_ := Aside0.mk (blk_below (g := gb315) (o := .cells #[.slice none 0 0, .slice none 0 0] 50 (0, 0)) (bkA BK315.out) hb)
               have n3_ := Aside0.mk (below_step (hbA HB) hb)
               have n4_ := Aside0.mk (hbox)
               have n5_ := Aside0.mk ((by rw [hg]; exact (below_size (hbA HB)) : w.heap.size ≤ gb340))
               have n6_ := Aside0.mk ((by rw [hg]; exact (below_size (hbA HB)) : w.heap.size ≤ gb340))
               have n7_ := Aside0.mk ((by rw [hg]; exact Nat.ne_of_lt (blk_lt (g := gb314) (o := .cells #[.slice A0_0 l0_0.length c0_0, .slice A0_1 l0_1.length c0_1] 50 (0, 0)) (bkA BK314.out)) : gb314 ≠ gb340))
               have n8_ := Aside0.mk ((by rw [hg]; exact Nat.ne_of_gt (blk_lt (g := gb314) (o := .cells #[.slice A0_0 l0_0.length c0_0, .slice A0_1 l0_1.length c0_1] 50 (0, 0)) (bkA BK314.out)) : gb340 ≠ gb314))
               have n9_ := Aside0.mk ((by rw [hg]; exact Nat.ne_of_lt (blk_lt (g := gb315) (o := .cells #[.slice none 0 0, .slice none 0 0] 50 (0, 0)) (bkA BK315.out)) : gb315 ≠ gb340))
               have n10_ := Aside0.mk ((by rw [hg]; exact Nat.ne_of_gt (blk_lt (g := gb315) (o := .cells #[.slice none 0 0, .slice none 0 0] 50 (0, 0)) (bkA BK315.out)) : gb340 ≠ gb315))
               clear HO_8
               clear BK314
               clear BK315
               clear HB
               have HO_8 := n0_
               have BK314 := n1_
               have BK315 := n2_
               have HB := n3_
               have BK340 := n4_
               have GW340 := n5_
               have GE340 := n6_
               have NB314_340 := n7_
               have NB340_314 := n8_
               have NB315_340 := n9_
               have NB340_315 := n10_
               clear n0_ n1_ n2_ n3_ n4_ n5_ n6_ n7_ n8_ n9_ n10_
               clear hb hbox hg
               refine hK.out _ _ ⟨(blk_cell BK314.out 0).trans rfl, (blk_cell BK314.out 1).trans rfl⟩ (fun hHeld => ?_)
               clear hK K
               refine norm_ (a' := ?_) ?_ ?_
               rotate_left
               ·
                show Act.put _ (some 9) _ = _
                simp only [Act.put, List.setIfInBounds_toArray, List.set_cons_zero, List.set_cons_succ, i64_w, i32_w]
                rfl
               refine one_ (i := 0) (N := some 48) #[true, true, true, true, true, false, true, true, true, true, false, false, true, false] rfl rfl (one_of HT_.out (by kernel_rfl)) (by decide) (fun K hK => ?_)
               refine Kd.R_lit_step (Kd.int .i64) _ 3 ?hg (N := 48) ?hd (xs := ([] : List Int)) (inner := []) (ok := fun _ => True) (okp := fun _ => True) ?hr ?hp (fun _ hk => hk) trivial (Below.refl _ _) (Nat.le_refl _) (by simp) ?_; (case hd => rfl); (case hg => rfl); (case hr => first | (go_simp; done) | (go_simp; rfl)); (case hp => exact (Reps.none _ _))
               intro v327 w81 ho82 hb hg_ hnew_
               clear hg_ hnew_
               (first | rw [← Ny326.out] at ho82 | (simp only [Int.reduceToNat] at ho82; rw [← Ny326.out] at ho82))
               have n0_ := Aside0.mk (Kd.R_below (rA HO_8.out) hb)
               have n1_ := Aside0.mk (Kd.R_lower ho82 (below_size (hbA HB)))
               have n2_ := Aside0.mk (blk_below (g := gb314) (o := .cells #[.slice A0_0 l0_0.length c0_0, .slice A0_1 l0_1.length c0_1] 50 (0, 0)) (bkA BK314.out) hb)
               have n3_ := Aside0.mk (blk_below (g := gb315) (o := .cells #[.slice none 0 0, .slice none 0 0] 50 (0, 0)) (bkA BK315.out) hb)
               have n4_ := Aside0.mk (blk_below (g := gb340) (o := .cells #[.slice none 0 0, .slice none 0 0] 50 (0, 0)) (bkA BK340.out) hb)
               have n5_ := Aside0.mk (below_step (hbA HB) hb)
               clear HO_8
               clear BK314
               clear BK315
               clear BK340
               clear HB
               have HO_8 := n0_
               have HO328 := n1_
               have BK314 := n2_
               have BK315 := n3_
               have BK340 := n4_
               have HB := n5_
               clear n0_ n1_ n2_ n3_ n4_ n5_
               clear hb ho82
               refine hK.out _ _ ⟨(blk_cell BK314.out 0).trans rfl, (blk_cell BK314.out 1).trans rfl⟩ (fun hHeld => ?_)
               clear hK K
               refine norm_ (a' := ?_) ?_ ?_
               rotate_left
               ·
                show Act.put _ (some 48) _ = _
                simp only [Act.put, List.setIfInBounds_toArray, List.set_cons_zero, List.set_cons_succ, i64_w, i32_w]
                rfl
               refine one_ (i := 5) (N := some 53) #[true, true, true, true, true, true, true, true, true, true, false, false, true, false] rfl rfl (one_of HT_.out (by kernel_rfl)) (by decide) (fun K hK => ?_)
               refine Kd.R_append_rows_step (Kd.int .i64) (w0 := w) w.heap.size (by rfl) (.tmp 48) (.tmp 52) 22 3 (.int .i64 0) 8 rfl Try.underlying22 info3 rfl (by decide) (by omega) v327 y326 (l0_0.take (x6_18 : Int).toNat) _ _ _ (fun _ => True) (fun _ => False) rfl rfl ?aO ?aR (fun _ _ h => h) (fun _ h => h.elim) ?aF ?aB ?aS ?aL ?_
               (case aR => first | (have q_ := Kd.C_below HR329.out (hbA HB); rw [show (l0_0.take (x6_18 : Int).toNat).length = x6_18.toNat from (by rw [List.length_take]; have h_ : (x6_18 : Int) ≤ (l0_0.length : Int) := of_decide_eq_true asA; omega)] at q_; exact q_) | (rw [← show (l0_0.take (x6_18 : Int).toNat).length = x6_18.toNat from (by rw [List.length_take]; have h_ : (x6_18 : Int) ≤ (l0_0.length : Int) := of_decide_eq_true asA; omega)]; exact cA (Kd.C_below HR329.out HB.out)) | (exact cA (Kd.C_below HR329.out HB.out)))
               (case aB => exact (hbA HB))
               (case aF => exact (fun _ _ => trivial))
               (case aO => exact (rA HO328.out))
               (case aS => exact (below_size (hbA HB)))
               (case aL => have := LMc38.out; have hlx_ := (show (l0_0.take (x6_18 : Int).toNat).length = x6_18.toNat from (by rw [List.length_take]; have h_ : (x6_18 : Int) ≤ (l0_0.length : Int) := of_decide_eq_true asA; omega)); omega)
               intro v331 w83 ho hb hg hat
               rw [← Ny330.out] at ho
               have n0_ := Aside0.mk (Kd.R_over' (rA HO_8.out) (Kd.R_typed (rA HO328.out)) (by decide) hg)
               have n1_ := Aside0.mk (blk_grown (g := gb314) (o := .cells #[.slice A0_0 l0_0.length c0_0, .slice A0_1 l0_1.length c0_1] 50 (0, 0)) (bkA BK314.out) hg (Kd.R_ne HO328.out BK314.out (by decide)))
               have n2_ := Aside0.mk (blk_grown (g := gb315) (o := .cells #[.slice none 0 0, .slice none 0 0] 50 (0, 0)) (bkA BK315.out) hg (Kd.R_ne HO328.out BK315.out (by decide)))
               have n3_ := Aside0.mk (blk_grown (g := gb340) (o := .cells #[.slice none 0 0, .slice none 0 0] 50 (0, 0)) (bkA BK340.out) hg (Kd.R_ne HO328.out BK340.out (by decide)))
               have n4_ := Aside0.mk (hb)
               have n5_ := Aside0.mk (ho)
               clear HO_8
               clear BK314
               clear BK315
               clear BK340
               clear HB
               clear HO328
               have HO_8 := n0_
               have BK314 := n1_
               have BK315 := n2_
               have BK340 := n3_
               have HB := n4_
               have HO332 := n5_
               clear n0_ n1_ n2_ n3_ n4_ n5_
               clear ho hb hg hat
               refine hK.out _ _ ⟨(blk_cell BK314.out 0).trans rfl, (blk_cell BK314.out 1).trans rfl⟩ (fun hHeld => ?_)
               clear hK K
               refine norm_ (a' := ?_) ?_ ?_
               rotate_left
               ·
                show Act.put _ (some 53) _ = _
                simp only [Act.put, List.setIfInBounds_toArray, List.set_cons_zero, List.set_cons_succ, i64_w, i32_w]
                rfl
               refine one_ (i := 10) (N := some 58) #[true, true, true, true, true, true, true, true, true, true, true, false, true, false] rfl rfl (one_of HT_.out (by kernel_rfl)) (by decide) (fun K hK => ?_)
               refine goes_ Try.func95 (by kernel_rfl) rfl #[.slice A0_1 y333.length c0_1] (by rfl) rfl rfl mtA ?_
               with_reducible refine (spec_l06Copy.calls kj18 _ _ y333 t337 _ ?side1 ?side2 A41.out).mono ?_
               (case side1 => exact cA (Kd.C_below HR336.out HB.out))
               (case side2 => exact HC336.out)
               rintro e w84 ⟨v338, rfl, ho0, hb⟩
               refine ⟨_, rfl, ?_⟩
               have n0_ := Aside0.mk (Kd.R_below (rA HO_8.out) hb)
               have n1_ := Aside0.mk (Kd.R_below (rA HO332.out) hb)
               have n2_ := Aside0.mk (Kd.S_lower (Kd.S_new' ho0 (Kd.R_lt (rA HO_8.out))) (below_size (hbA HB)))
               have n3_ := Aside0.mk (blk_below (g := gb314) (o := .cells #[.slice A0_0 l0_0.length c0_0, .slice A0_1 l0_1.length c0_1] 50 (0, 0)) (bkA BK314.out) hb)
               have n4_ := Aside0.mk (blk_below (g := gb315) (o := .cells #[.slice none 0 0, .slice none 0 0] 50 (0, 0)) (bkA BK315.out) hb)
               have n5_ := Aside0.mk (blk_below (g := gb340) (o := .cells #[.slice none 0 0, .slice none 0 0] 50 (0, 0)) (bkA BK340.out) hb)
               have n6_ := Aside0.mk (below_step (hbA HB) hb)
               clear HO_8
               clear HO332
               clear BK314
               clear BK315
               clear BK340
               clear HB
               have HO_8 := n0_
               have HO332 := n1_
               have HO339 := n2_
               have BK314 := n3_
               have BK315 := n4_
               have BK340 := n5_
               have HB := n6_
               clear n0_ n1_ n2_ n3_ n4_ n5_ n6_
               (try clear hb)
               (try clear hb2)
               (try clear hk)
               (try clear hi)
               (try clear ho0)
               obtain ⟨Ao85, co85, eo85⟩ := Kd.S_slice HO339.out
               (first | subst eo85 | (injection eo85 with f1_ f2_ f3_; have f4_ := f1_.symm; have f5_ := f3_.symm; clear f1_ f2_ f3_; subst f4_; subst f5_))
               obtain ⟨Ao86, co86, eo86⟩ := Kd.R_slice HO332.out
               (first | subst eo86 | (injection eo86 with f1_ f2_ f3_; have f4_ := f1_.symm; have f5_ := f3_.symm; clear f1_ f2_ f3_; subst f4_; subst f5_))
               refine hK.out _ _ ⟨(blk_cell BK314.out 0).trans rfl, (blk_cell BK314.out 1).trans rfl⟩ (fun hHeld => ?_)
               clear hK K
               refine norm_ (a' := ?_) ?_ ?_
               rotate_left
               ·
                show Act.put _ (some 58) _ = _
                simp only [Act.put, List.setIfInBounds_toArray, List.set_cons_zero, List.set_cons_succ, i64_w, i32_w]
                rfl
               refine pure_ (i := 11) (N := some 59) (v := ?_) (a' := ?_) #[true, true, true, true, true, true, true, true, true, true, true, true, true, false] rfl rfl (any_of HT_.out (by kernel_rfl)) (fun _ _ _ h => h) (Or.inl ⟨by rfl, ?_⟩) ?_ ?_
               rotate_left
               ·
                intro w'
                go_simp
                with_reducible rfl
               rotate_left
               ·
                simp only [Act.put, List.setIfInBounds_toArray, List.set_cons_zero, List.set_cons_succ, i64_w, i32_w]
                rfl
               exact norm_ (by simp only [putAll, Act.put, List.setIfInBounds_toArray, List.set_cons_zero, List.set_cons_succ]) (hCont (v327, .slice Ao86 y330.length co86, .slice Ao85 t337.length co85, gb340) _ ⟨hHeld, (rA HO332.out), (by (with_reducible repeat (first | apply Kd.S_alloc | apply Kd.S_drewN | apply Kd.S_drew)); exact Kd.S_mono HO339.out (fun _ hk => hk.2)), (rA HO_8.out), (bkA BK314.out), (bkA BK315.out), (bkA BK340.out), GW340.out, GE340.out, NB314_340.out, NB340_314.out, NB315_340.out, NB340_315.out, (hbA HB)⟩)
             rintro ⟨v327, v331, v338, gb340⟩ w87 ⟨hS_, h0_, h1_, h2_, h3_, h4_, h5_, h6_, h7_, h8_, h9_, h10_, h11_, h12_⟩
             have n0_ : Aside0 (Kd.R (Kd.int .i64) 3 w87 w.heap.size (fun _ => True) v331 y330) := ⟨h0_⟩
             have n1_ : Aside0 (Kd.S (Kd.slice 5 (Kd.int .u8)) 23 w87 w.heap.size (fun k_ => some k_ ≠ (u8 : Value).ownBlock) v338 t337) := ⟨h1_⟩
             have n2_ : Aside0 (Kd.R (Kd.int .u8) 5 w87 w.heap.size (fun _ => True) u8 x8_18) := ⟨h2_⟩
             have n3_ : Aside0 (w87.heap[gb314]? = some (.cells #[.slice A0_0 l0_0.length c0_0, .slice A0_1 l0_1.length c0_1] 50 (0, 0))) := ⟨h3_⟩
             have n4_ : Aside0 (w87.heap[gb315]? = some (.cells #[.slice none 0 0, .slice none 0 0] 50 (0, 0))) := ⟨h4_⟩
             have n5_ : Aside0 (w87.heap[gb340]? = some (.cells #[.slice none 0 0, .slice none 0 0] 50 (0, 0))) := ⟨h5_⟩
             have n6_ : Aside0 (w.heap.size ≤ gb340) := ⟨h6_⟩
             have n7_ : Aside0 (w.heap.size ≤ gb340) := ⟨h7_⟩
             have n8_ : Aside0 (gb314 ≠ gb340) := ⟨h8_⟩
             have n9_ : Aside0 (gb340 ≠ gb314) := ⟨h9_⟩
             have n10_ : Aside0 (gb315 ≠ gb340) := ⟨h10_⟩
             have n11_ : Aside0 (gb340 ≠ gb315) := ⟨h11_⟩
             have n12_ : Aside0 (Below w.heap.size w w87) := ⟨h12_⟩
             clear HO_8
             clear BK314
             clear BK315
             clear HB
             clear h0_ h1_ h2_ h3_ h4_ h5_ h6_ h7_ h8_ h9_ h10_ h11_ h12_
             have HO332 := n0_
             have HO339 := n1_
             have HO_8 := n2_
             have BK314 := n3_
             have BK315 := n4_
             have BK340 := n5_
             have GW340 := n6_
             have GE340 := n7_
             have NB314_340 := n8_
             have NB340_314 := n9_
             have NB315_340 := n10_
             have NB340_315 := n11_
             have HB := n12_
             clear n0_ n1_ n2_ n3_ n4_ n5_ n6_ n7_ n8_ n9_ n10_ n11_ n12_
             have hHeld : w87.cell? ⟨gb314, 0, none⟩ = some (.slice A0_0 l0_0.length c0_0) ∧ w87.cell? ⟨gb314, 1, none⟩ = some (.slice A0_1 l0_1.length c0_1) := hS_
             obtain ⟨Ao88, co88, eo88⟩ := Kd.S_slice HO339.out
             (first | subst eo88 | (injection eo88 with f1_ f2_ f3_; have f4_ := f1_.symm; have f5_ := f3_.symm; clear f1_ f2_ f3_; subst f4_; subst f5_))
             obtain ⟨Ao89, co89, eo89⟩ := Kd.R_slice HO332.out
             (first | subst eo89 | (injection eo89 with f1_ f2_ f3_; have f4_ := f1_.symm; have f5_ := f3_.symm; clear f1_ f2_ f3_; subst f4_; subst f5_))
             refine norm_ (a' := ?_) ?_ ?_
             rotate_left
             ·
              simp only [putAll, Act.put, List.setIfInBounds_toArray, List.set_cons_zero, List.set_cons_succ]
              rfl
             refine one_ (i := 13) (N := none) #[true, true, true, true, true, true, true, true, true, true, true, true, true, true] rfl rfl (one_of HT_.out (by kernel_rfl)) (by decide) (fun K hK => ?_)
             have hs90 : w87.cell? ⟨gb340, 0, none⟩ = some (.slice none 0 0) := (blk_cell BK340.out 0).trans rfl
             have hfs90 := blk_frozen BK340.out 0
             have hns90_0 := NB314_340.out
             have hns90_1 := NB315_340.out
             have hms90_0 := NB340_314.out
             have hms90_1 := NB340_315.out
             have hs91 : w87.cell? ⟨gb340, 1, none⟩ = some (.slice none 0 0) := (blk_cell BK340.out 1).trans rfl
             have hfs91 := blk_frozen BK340.out 1
             have hns91_0 := NB314_340.out
             have hns91_1 := NB315_340.out
             have hms91_0 := NB340_314.out
             have hms91_1 := NB340_315.out
             refine skip_ (w1 := ?_) (by rfl) rfl ?_ ?_
             rotate_left
             ·
              go_simp
              rfl
             refine hK.out _ _ ⟨((cell_far (p := ⟨gb340, _, none⟩) NB314_340.out _).trans (((cell_far (p := ⟨gb340, _, none⟩) NB314_340.out _).trans (hHeld.1)))), ((cell_far (p := ⟨gb340, _, none⟩) NB314_340.out _).trans (((cell_far (p := ⟨gb340, _, none⟩) NB314_340.out _).trans (hHeld.2))))⟩ (fun hHeld => ?_)
             clear hK K
             refine done_ (done_of HT_.out (by kernel_rfl)) ?_
             have hnb92 := NB340_314.out
             have hnc92 := NB314_340.out
             have hnb93 := NB340_315.out
             have hnc93 := NB315_340.out
             have hcz94_0 : w87.cell? ⟨gb340, 0, none⟩ = some (.slice none 0 0) := (blk_cell BK340.out 0).trans rfl
             have hcz94_1 : w87.cell? ⟨gb340, 1, none⟩ = some (.slice none 0 0) := (blk_cell BK340.out 1).trans rfl
             have hfz94_0 := blk_frozen BK340.out 0
             have hfz94_1 := blk_frozen BK340.out 1
             try go_wp2_with (first | ((with_reducible refine gate_builtin (b := .append) (xs := #[.tmp 61, .tmp 63]) rfl ?_); at_builtin; refine Kd.R_append (Kd.int .i64) (w0 := w) w.heap.size rfl (.tmp 61) (.tmp 63) 22 3 (.int .i64 0) 8 rfl Try.underlying22 info3 rfl (by decide) (by omega) (.slice Ao89 y330.length co89) y330 x7_18 [.int .i64 x7_18] (fun _ => True) (fun _ => False) rfl (by first | (go_simp; done) | (go_simp; rfl)) ?aP (fun _ hk => hk.elim) ?aF ?aO ?aB ?aS ?aL ?_; (case aP => exact rfl); (case aB => exact (hbA HB)); (case aF => exact (fun _ _ => trivial)); (case aO => exact (by (with_reducible repeat (first | apply Kd.R_alloc | apply Kd.R_drewN | apply Kd.R_drew)); exact Kd.R_mono (Kd.R_far (p := ⟨gb340, 1, none⟩) (Kd.R_far (p := ⟨gb340, 0, none⟩) (Kd.R_types HO332.out BK340.out (by decide)) (fun _ hk => hk.2) (.slice Ao89 y330.length co89)) (fun _ hk => hk.2) (.slice Ao88 t337.length co88)) (fun _ hk => trivial))); (case aS => exact (below_size (hbA HB))); (case aL => have := LMc42.out; omega); intro v342 w95 ho hb hg hat; rw [← Ny341.out] at ho; have n0_ := Aside0.mk (Kd.R_over' (by (with_reducible repeat (first | apply Kd.R_alloc | apply Kd.R_drewN | apply Kd.R_drew)); exact (Kd.R_mono (Kd.R_far (p := ⟨gb340, 1, none⟩) (Kd.R_far (p := ⟨gb340, 0, none⟩) (Kd.R_types HO_8.out BK340.out (by decide)) (fun _ hk => hk.2) (.slice Ao89 y330.length co89)) (fun _ hk => hk.2) (.slice Ao88 t337.length co88)) (fun _ h_ => h_.1))) (Kd.R_typed (by (with_reducible repeat (first | apply Kd.R_alloc | apply Kd.R_drewN | apply Kd.R_drew)); exact (Kd.R_mono (Kd.R_far (p := ⟨gb340, 1, none⟩) (Kd.R_far (p := ⟨gb340, 0, none⟩) (Kd.R_types HO332.out BK340.out (by decide)) (fun _ hk => hk.2) (.slice Ao89 y330.length co89)) (fun _ hk => hk.2) (.slice Ao88 t337.length co88)) (fun _ h_ => h_.1)))) (by decide) hg); have n1_ := Aside0.mk (blk_grown (g := gb314) (o := .cells #[.slice A0_0 l0_0.length c0_0, .slice A0_1 l0_1.length c0_1] 50 (0, 0)) (by (with_reducible repeat (first | refine blk_drewN ?_ _ | refine blk_drew ?_ | refine blk_alloc ?_ _)); refine blk_far ?_ NB314_340.out _; (with_reducible repeat (first | refine blk_drewN ?_ _ | refine blk_drew ?_ | refine blk_alloc ?_ _)); refine blk_far ?_ NB314_340.out _; (with_reducible repeat (first | refine blk_drewN ?_ _ | refine blk_drew ?_ | refine blk_alloc ?_ _)); exact BK314.out) hg (Kd.R_ne HO332.out BK314.out (by decide))); have n2_ := Aside0.mk (blk_grown (g := gb315) (o := .cells #[.slice none 0 0, .slice none 0 0] 50 (0, 0)) (by (with_reducible repeat (first | refine blk_drewN ?_ _ | refine blk_drew ?_ | refine blk_alloc ?_ _)); refine blk_far ?_ NB315_340.out _; (with_reducible repeat (first | refine blk_drewN ?_ _ | refine blk_drew ?_ | refine blk_alloc ?_ _)); refine blk_far ?_ NB315_340.out _; (with_reducible repeat (first | refine blk_drewN ?_ _ | refine blk_drew ?_ | refine blk_alloc ?_ _)); exact BK315.out) hg (Kd.R_ne HO332.out BK315.out (by decide))); have n3_ := Aside0.mk (Kd.S_over' (by (with_reducible repeat (first | apply Kd.S_alloc | apply Kd.S_drewN | apply Kd.S_drew)); exact (Kd.S_mono (Kd.S_far (p := ⟨gb340, 1, none⟩) (Kd.S_far (p := ⟨gb340, 0, none⟩) (Kd.S_types HO339.out BK340.out (by decide)) (fun _ hk => hk.2) (.slice Ao89 y330.length co89)) (fun _ hk => hk.2) (.slice Ao88 t337.length co88)) (fun _ h_ => h_.1))) (Kd.R_typed (by (with_reducible repeat (first | apply Kd.R_alloc | apply Kd.R_drewN | apply Kd.R_drew)); exact (Kd.R_mono (Kd.R_far (p := ⟨gb340, 1, none⟩) (Kd.R_far (p := ⟨gb340, 0, none⟩) (Kd.R_types HO332.out BK340.out (by decide)) (fun _ hk => hk.2) (.slice Ao89 y330.length co89)) (fun _ hk => hk.2) (.slice Ao88 t337.length co88)) (fun _ h_ => h_.1)))) (by decide) hg); have n4_ := Aside0.mk (blk_grown (g := gb340) (o := .cells #[.slice Ao89 y330.length co89, .slice Ao88 t337.length co88] 50 (0, 0)) (by (with_reducible repeat (first | refine blk_drewN ?_ _ | refine blk_drew ?_ | refine blk_alloc ?_ _)); refine blk_put (cs := #[.slice Ao89 y330.length co89, .slice none 0 0]) ?_ 1 _ rfl; (with_reducible repeat (first | refine blk_drewN ?_ _ | refine blk_drew ?_ | refine blk_alloc ?_ _)); refine blk_put (cs := #[.slice none 0 0, .slice none 0 0]) ?_ 0 _ rfl; (with_reducible repeat (first | refine blk_drewN ?_ _ | refine blk_drew ?_ | refine blk_alloc ?_ _)); exact BK340.out) hg (Kd.R_ne HO332.out BK340.out (by decide))); have n5_ := Aside0.mk (hb); have n6_ := Aside0.mk (ho); clear HO_8; clear BK314; clear BK315; clear HO339; clear BK340; clear HB; clear HO332; have HO_8 := n0_; have BK314 := n1_; have BK315 := n2_; have HO339 := n3_; have BK340 := n4_; have HB := n5_; have HO343 := n6_; clear n0_ n1_ n2_ n3_ n4_ n5_ n6_; clear ho hb hg hat; obtain ⟨Ao96, co96, eo96⟩ := Kd.R_slice HO343.out; subst eo96; have hcz97_0 : w95.cell? ⟨gb340, 0, none⟩ = some (.slice Ao89 y330.length co89) := (blk_cell BK340.out 0).trans rfl; have hcz97_1 : w95.cell? ⟨gb340, 1, none⟩ = some (.slice Ao88 t337.length co88) := (blk_cell BK340.out 1).trans rfl; have hfz97_0 := blk_frozen BK340.out 0; have hfz97_1 := blk_frozen BK340.out 1) | ((with_reducible refine gate_store (t := 22) (p := 65) rfl ?_); refine store_event (t := 22) (p := 65) (v := ?vo_w98) (w1 := (w95.setCell ⟨gb340, 0, none⟩ (.slice Ao96 y341.length co96))) ?hg ?ho ?hn ?hr ?_; (case ho => rfl); (case hg => rfl); (case hn => rfl); (case hr => first | (go_simp; done) | (go_simp; rfl)); intro w98 hw; have n0_ : Aside0 (Kd.R (Kd.int .u8) 5 w98 w.heap.size (fun _ => True) u8 x8_18) := ⟨(by rw [hw]; exact (by (with_reducible repeat (first | apply Kd.R_alloc | apply Kd.R_drewN | apply Kd.R_drew)); exact Kd.R_mono (Kd.R_far (p := ⟨gb340, 0, none⟩) (Kd.R_types HO_8.out BK340.out (by decide)) (fun _ hk => hk.2) (.slice Ao96 y341.length co96)) (fun _ hk => trivial)))⟩; have n1_ : Aside0 (Kd.S (Kd.slice 5 (Kd.int .u8)) 23 w98 w.heap.size (fun k_ => some k_ ≠ (u8 : Value).ownBlock) (.slice Ao88 t337.length co88) t337) := ⟨(by rw [hw]; exact (by (with_reducible repeat (first | apply Kd.S_alloc | apply Kd.S_drewN | apply Kd.S_drew)); exact Kd.S_mono (Kd.S_far (p := ⟨gb340, 0, none⟩) (Kd.S_types HO339.out BK340.out (by decide)) (fun _ hk => hk.2) (.slice Ao96 y341.length co96)) (fun _ hk => hk.1)))⟩; have n2_ : Aside0 (Kd.R (Kd.int .i64) 3 w98 w.heap.size (fun _ => True) (.slice Ao96 y341.length co96) y341) := ⟨(by rw [hw]; exact (by (with_reducible repeat (first | apply Kd.R_alloc | apply Kd.R_drewN | apply Kd.R_drew)); exact Kd.R_mono (Kd.R_far (p := ⟨gb340, 0, none⟩) (Kd.R_types HO343.out BK340.out (by decide)) (fun _ hk => hk.2) (.slice Ao96 y341.length co96)) (fun _ hk => trivial)))⟩; have n3_ : Aside0 (w98.heap[gb314]? = some (.cells #[.slice A0_0 l0_0.length c0_0, .slice A0_1 l0_1.length c0_1] 50 (0, 0))) := ⟨(by rw [hw]; exact (by (with_reducible repeat (first | refine blk_drewN ?_ _ | refine blk_drew ?_ | refine blk_alloc ?_ _)); refine blk_far ?_ NB314_340.out _; (with_reducible repeat (first | refine blk_drewN ?_ _ | refine blk_drew ?_ | refine blk_alloc ?_ _)); exact BK314.out))⟩; have n4_ : Aside0 (w98.heap[gb315]? = some (.cells #[.slice none 0 0, .slice none 0 0] 50 (0, 0))) := ⟨(by rw [hw]; exact (by (with_reducible repeat (first | refine blk_drewN ?_ _ | refine blk_drew ?_ | refine blk_alloc ?_ _)); refine blk_far ?_ NB315_340.out _; (with_reducible repeat (first | refine blk_drewN ?_ _ | refine blk_drew ?_ | refine blk_alloc ?_ _)); exact BK315.out))⟩; have n5_ : Aside0 (w98.heap[gb340]? = some (.cells #[.slice Ao96 y341.length co96, .slice Ao88 t337.length co88] 50 (0, 0))) := ⟨(by rw [hw]; exact (by (with_reducible repeat (first | refine blk_drewN ?_ _ | refine blk_drew ?_ | refine blk_alloc ?_ _)); refine blk_put (cs := #[.slice Ao89 y330.length co89, .slice Ao88 t337.length co88]) ?_ 0 _ rfl; (with_reducible repeat (first | refine blk_drewN ?_ _ | refine blk_drew ?_ | refine blk_alloc ?_ _)); exact BK340.out))⟩; have n6_ : Aside0 (Below w.heap.size w w98) := ⟨(by rw [hw]; exact (hbA HB))⟩; clear hw; clear HO_8; clear HO339; clear HO343; clear BK314; clear BK315; clear BK340; clear HB; have HO_8 := n0_; have HO339 := n1_; have HO343 := n2_; have BK314 := n3_; have BK315 := n4_; have BK340 := n5_; have HB := n6_; clear n0_ n1_ n2_ n3_ n4_ n5_ n6_; have hcz99_0 : w98.cell? ⟨gb340, 0, none⟩ = some (.slice Ao96 y341.length co96) := (blk_cell BK340.out 0).trans rfl; have hcz99_1 : w98.cell? ⟨gb340, 1, none⟩ = some (.slice Ao88 t337.length co88) := (blk_cell BK340.out 1).trans rfl; have hfz99_0 := blk_frozen BK340.out 0; have hfz99_1 := blk_frozen BK340.out 1; obtain ⟨Ao101, co101, eo101⟩ := Kd.R_slice HO_8.out; subst eo101) | ((with_reducible refine gate_builtin (b := .append) (xs := #[.tmp 67, .tmp 69]) rfl ?_); at_builtin; refine Kd.S_append (Kd.slice 5 (Kd.int .u8)) (w0 := w) w.heap.size rfl (.tmp 67) (.tmp 69) 38 23 (.slice none 0 0) 24 rfl Try.underlying38 info23 rfl (by decide) (by omega) (.slice Ao88 t337.length co88) t337 x8_18 [.slice Ao101 x8_18.length co101] (fun _ => True) (fun k_ => some k_ = (.slice Ao101 x8_18.length co101 : Value).ownBlock) rfl rfl ?aP (fun k_ hk_ => ((Kd.R_mono (ok' := fun k_ => ((fun _ => True)) k_ ∧ some k_ ≠ (.slice Ao88 t337.length co88 : Value).ownBlock) (Kd.R_apart' (HO_8.out) (Kd.S_typed HO339.out) (by decide)) (fun k_ hk => ⟨trivial, hk.2⟩))).1 k_ hk_.symm) ?aF ?aO ?aB ?aS ?aL ?_; (case aP => exact Kd.M_row (Kd.R_mono (Kd.R_tight rfl (Kd.R_mono (ok' := fun k_ => ((fun _ => True)) k_ ∧ some k_ ≠ (.slice Ao88 t337.length co88 : Value).ownBlock) (Kd.R_apart' (HO_8.out) (Kd.S_typed HO339.out) (by decide)) (fun k_ hk => ⟨trivial, hk.2⟩))) (fun _ h_ => h_))); (case aB => exact (hbA HB)); (case aF => exact (fun _ _ => trivial)); (case aO => exact (by (with_reducible repeat (first | apply Kd.S_alloc | apply Kd.S_drewN | apply Kd.S_drew)); exact Kd.S_mono HO339.out (fun k_ hk => ⟨trivial, fun e_ => hk e_⟩))); (case aS => exact (below_size (hbA HB))); (case aL => have := LMc43.out; omega); intro v345 w100 ho hb hg hat; rw [← Ny344.out] at ho; have n0_ := Aside0.mk (blk_grown (g := gb314) (o := .cells #[.slice A0_0 l0_0.length c0_0, .slice A0_1 l0_1.length c0_1] 50 (0, 0)) (bkA BK314.out) hg (Kd.S_ne HO339.out BK314.out (by decide))); have n1_ := Aside0.mk (blk_grown (g := gb315) (o := .cells #[.slice none 0 0, .slice none 0 0] 50 (0, 0)) (bkA BK315.out) hg (Kd.S_ne HO339.out BK315.out (by decide))); have n2_ := Aside0.mk (blk_grown (g := gb340) (o := .cells #[.slice Ao96 y341.length co96, .slice Ao88 t337.length co88] 50 (0, 0)) (bkA BK340.out) hg (Kd.S_ne HO339.out BK340.out (by decide))); have n3_ := Aside0.mk (Kd.R_over' (rA HO343.out) (Kd.S_typed (sA HO339.out)) (by decide) hg); have n4_ := Aside0.mk (hb); have n5_ := Aside0.mk (ho); clear BK314; clear BK315; clear BK340; clear HO343; clear HB; clear HO339; clear HO_8; have BK314 := n0_; have BK315 := n1_; have BK340 := n2_; have HO343 := n3_; have HB := n4_; have HO346 := n5_; clear n0_ n1_ n2_ n3_ n4_ n5_; clear ho hb hg hat; obtain ⟨Ao102, co102, eo102⟩ := Kd.S_slice HO346.out; subst eo102; have hcz103_0 : w100.cell? ⟨gb340, 0, none⟩ = some (.slice Ao96 y341.length co96) := (blk_cell BK340.out 0).trans rfl; have hcz103_1 : w100.cell? ⟨gb340, 1, none⟩ = some (.slice Ao88 t337.length co88) := (blk_cell BK340.out 1).trans rfl; have hfz103_0 := blk_frozen BK340.out 0; have hfz103_1 := blk_frozen BK340.out 1) | ((with_reducible refine gate_callee (f := 92) rfl ?_); refine goesL_ (some 73) rfl rfl Try.func92 (by kernel_rfl) rfl #[.agg #[.slice Ao96 y341.length co96, .slice Ao102 y344.length co102]] rfl mtA ?_; (with_reducible refine (spec_StackOk.calls kj18 _ _ y341 _ _ y344 false _ ?side1 ?side2 ?side3 ?side4 A44.out).mono ?_); (case side1 => refine (Kd.R_reads' (e := 3) (base := w.heap.size) (ok := fun k_ => True) (n := y341.length) (c := co96) ?_).2.2; exact (by (with_reducible repeat (first | apply Kd.R_alloc | apply Kd.R_drewN | apply Kd.R_drew)); exact (Kd.R_mono (Kd.R_far (p := ⟨gb340, 1, none⟩) (Kd.R_types HO343.out BK340.out (by decide)) (fun _ hk => hk.2) (.slice Ao102 y344.length co102)) (fun _ h_ => h_.1)))); (case side2 => exact (Kd.R_reads' HO343.out).2.1); (case side3 => refine (Kd.S_reads' (e := 23) (base := w.heap.size) (ok := fun k_ => True) (n := y344.length) (c := co102) ?_).2.2; exact (by (with_reducible repeat (first | apply Kd.S_alloc | apply Kd.S_drewN | apply Kd.S_drew)); exact (Kd.S_mono (Kd.S_far (p := ⟨gb340, 1, none⟩) (Kd.S_types HO346.out BK340.out (by decide)) (fun _ hk => hk.2) (.slice Ao102 y344.length co102)) (fun _ h_ => h_.1)))); (case side4 => exact (Kd.S_reads' HO346.out).2.1); rintro e w104 ⟨rfl, hb⟩; refine ⟨_, rfl, ?_⟩; have n0_ := Aside0.mk (Kd.R_below (by (with_reducible repeat (first | apply Kd.R_alloc | apply Kd.R_drewN | apply Kd.R_drew)); exact (Kd.R_mono (Kd.R_far (p := ⟨gb340, 1, none⟩) (Kd.R_types HO343.out BK340.out (by decide)) (fun _ hk => hk.2) (.slice Ao102 y344.length co102)) (fun _ h_ => h_.1))) hb); have n1_ := Aside0.mk (Kd.S_below (by (with_reducible repeat (first | apply Kd.S_alloc | apply Kd.S_drewN | apply Kd.S_drew)); exact (Kd.S_mono (Kd.S_far (p := ⟨gb340, 1, none⟩) (Kd.S_types HO346.out BK340.out (by decide)) (fun _ hk => hk.2) (.slice Ao102 y344.length co102)) (fun _ h_ => h_.1))) hb); have n2_ := Aside0.mk (blk_below (g := gb314) (o := .cells #[.slice A0_0 l0_0.length c0_0, .slice A0_1 l0_1.length c0_1] 50 (0, 0)) (by (with_reducible repeat (first | refine blk_drewN ?_ _ | refine blk_drew ?_ | refine blk_alloc ?_ _)); refine blk_far ?_ NB314_340.out _; (with_reducible repeat (first | refine blk_drewN ?_ _ | refine blk_drew ?_ | refine blk_alloc ?_ _)); exact BK314.out) hb); have n3_ := Aside0.mk (blk_below (g := gb315) (o := .cells #[.slice none 0 0, .slice none 0 0] 50 (0, 0)) (by (with_reducible repeat (first | refine blk_drewN ?_ _ | refine blk_drew ?_ | refine blk_alloc ?_ _)); refine blk_far ?_ NB315_340.out _; (with_reducible repeat (first | refine blk_drewN ?_ _ | refine blk_drew ?_ | refine blk_alloc ?_ _)); exact BK315.out) hb); have n4_ := Aside0.mk (blk_below (g := gb340) (o := .cells #[.slice Ao96 y341.length co96, .slice Ao102 y344.length co102] 50 (0, 0)) (by (with_reducible repeat (first | refine blk_drewN ?_ _ | refine blk_drew ?_ | refine blk_alloc ?_ _)); refine blk_put (cs := #[.slice Ao96 y341.length co96, .slice Ao88 t337.length co88]) ?_ 1 _ rfl; (with_reducible repeat (first | refine blk_drewN ?_ _ | refine blk_drew ?_ | refine blk_alloc ?_ _)); exact BK340.out) hb); have n5_ := Aside0.mk (below_step (hbA HB) hb); clear HO343; clear HO346; clear BK314; clear BK315; clear BK340; clear HB; have HO343 := n0_; have HO346 := n1_; have BK314 := n2_; have BK315 := n3_; have BK340 := n4_; have HB := n5_; clear n0_ n1_ n2_ n3_ n4_ n5_; (try clear hb); (try clear hb2); (try clear hk); (try clear hi); have hnb105 := NB315_314.out; have hnc105 := NB314_315.out; have hcz106_0 : w104.cell? ⟨gb315, 0, none⟩ = some (.slice none 0 0) := (blk_cell BK315.out 0).trans rfl; have hcz106_1 : w104.cell? ⟨gb315, 1, none⟩ = some (.slice none 0 0) := (blk_cell BK315.out 1).trans rfl; have hfz106_0 := blk_frozen BK315.out 0; have hfz106_1 := blk_frozen BK315.out 1))
             refine bodyPost_ret (results_ct rfl _ _ gb315 50 #[.slice none 0 0, .slice none 0 0] (0, 0) _ rfl (by (with_reducible repeat (first | refine blk_drewN ?_ _ | refine blk_drew ?_ | refine blk_alloc ?_ _)); refine blk_put (cs := #[.slice none 0 0, .slice none 0 0]) ?_ 1 _ rfl; (with_reducible repeat (first | refine blk_drewN ?_ _ | refine blk_drew ?_ | refine blk_alloc ?_ _)); refine blk_put (cs := #[.slice none 0 0, .slice none 0 0]) ?_ 0 _ rfl; (with_reducible repeat (first | refine blk_drewN ?_ _ | refine blk_drew ?_ | refine blk_alloc ?_ _)); exact BK315.out) Try.underlying50 rfl (by kernel_rfl)) rfl ?_
             exact ⟨_, _, by first | rfl | (simp [errW_none, errW_some] <;> rfl) | (simp [*, errW_none, errW_some] <;> rfl), by first | exact Kd.R_nil _ _ _ _ _ | exact Kd.N_nil _ _ _ _ _ | exact Kd.V_nil _ _ _ _ _ | exact Kd.Q_nil _ _ _ _ _ | exact Kd.S_nil _ _ _ _ _, by first | exact Kd.S_nil _ _ _ _ _ | exact Kd.N_nil _ _ _ _ _ | exact Kd.V_nil _ _ _ _ _ | exact Kd.Q_nil _ _ _ _ _ | exact Kd.R_nil _ _ _ _ _, hbA HB⟩
           ·
            rw [if_neg c43] at H
            exact absurd H (by simp)
          ·
           rw [if_neg c42] at H
           exact absurd H (by simp)
         ·
          rw [if_neg c40] at H
          exact absurd H (by simp)
        ·
         rw [if_neg c38] at H
         exact absurd H (by simp)
       ·
        rw [if_neg c37] at H
        exact absurd H (by simp)
      ·
       rw [if_neg c36] at H
       exact absurd H (by simp)

end Go.Proofs.Ytjfhbmbiegccnaa.QFnExactStackOf
