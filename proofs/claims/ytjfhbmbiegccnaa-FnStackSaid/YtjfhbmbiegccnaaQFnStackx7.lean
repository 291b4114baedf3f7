/- The walk of the law on stacks and trees, for the answer true. No conditions but those typed. -/
import Derived.Test.YtjfhbmbiegccnaaQFnStackx0
import Derived.Test.YtjfhbmbiegccnaaQFnStackx1
import Derived.Test.YtjfhbmbiegccnaaQFnStackx2
import Derived.Test.YtjfhbmbiegccnaaQFnStackx3
import Derived.Test.YtjfhbmbiegccnaaQFnStackx4
import Derived.Test.YtjfhbmbiegccnaaQFnStackx5
import Derived.Test.YtjfhbmbiegccnaaQFnStackx6
namespace Go.Proofs.Ytjfhbmbiegccnaa.QFnStack
open Go.RowKit Go.Proofs.YtjfhbmbiegccnaaW.PrintWords Go.Proofs.YtjfhbmbiegccnaaW.PrintLast Go.Proofs.YtjfhbmbiegccnaaW.PrintMore
attribute [local go_sem] max2_int min2_int max_two min_two max_three min_three max_four min_four   -- for this text's walks alone
set_option linter.unusedVariables false
set_option linter.unusedSimpArgs false

def laws_FnStack.T5 : Bool × List (List Nat × List Nat) := (true, [([], []), ([], []), ([1], [1]), ([0, 2, 2], [0, 2]), ([3], [3]), ([4], [4]), ([4], [4]), ([], []), ([7, 5, 3, 0, 1, 2, 3, 4, 5, 7], [5, 7]), ([6, 8, 0, 1, 2, 3, 4, 5, 6, 7, 8], [6])])
def laws_FnStack.B5 : List Nat := [0, 0, 2, 7, 15, 31, 31, 0, 191, 511]
theorem laws_FnStack.tab5 : rtab .any (opsOf Try.f13 5) = laws_FnStack.T5 := by kernel_rfl
theorem laws_FnStack.bits5 : waitsOk laws_FnStack.T5.2 laws_FnStack.B5 = true := by kernel_rfl
theorem fs_of_d {w w' : World} (h : Drawn0 w w') : Below w.heap.size w w' := by
 obtain ⟨nd, rfl⟩ := h
 exact pw_below_drewN (Below.refl _ _) nd
set_option maxHeartbeats 8000000 in
set_option maxRecDepth 100000 in
theorem fs_big (k : Nat) (A0 : Option Addr) (c0 : Nat) (l0 : List Int) (w : World) (hr0 : Kd.C (Kd.int .u8) w A0 l0.length l0) (hc0 : l0.length ≤ c0)
  (c2 : 1048576 < l0.length) :
  Calls Try.prog 13 #[.slice A0 l0.length c0] w fun e w' => e = .returned (.bool true) ∧ Below w.heap.size w w' := by
 have HR0 := Aside0.mk hr0
 have HC0 := Aside0.mk hc0
 clear hr0 hc0
 have HB := Aside0.mk (Below.refl w.heap.size w)
 have c2b0 : decide (1048576 < (l0.length : Int)) = true := decide_eq_true (by omega)
 have c2b1 : decide (1048576 < l0.length) = true := decide_eq_true c2
 clear c2
 go_enter Try.func13, Try.ntmps13
 go_wp2
 go_ret
 exact ⟨rfl, HB.out⟩
set_option maxHeartbeats 8000000 in
set_option maxRecDepth 100000 in
theorem fs_walk (k : Nat) (A0 : Option Addr) (c0 : Nat) (l0 : List Int) (t313 : List (List Int)) (t316 : List Int) (t319 : List (List Int)) (t327 : List Int) (t330 : List Int) (t333 : List (List Int)) (t351 t352 : Int) (t353 t356 t360 t363 t367 t370 : List Int) (w : World) (hr0 : Kd.C (Kd.int .u8) w A0 l0.length l0) (hc0 : l0.length ≤ c0)
  (c2 : ¬ 1048576 < l0.length) (a3 : spec_MakeList.f k l0 = some t313) (a4 : impl_StackOf.f k t313 = some (t316, t319, true)) (a5 : impl_LeafHash.f k [5] = some t327) (a6 : impl_StackPush.f k t316 t319 t327 = some (t330, t333, true)) (a11 : impl_StackOk.f k t316 t319 = some true) (a13 : impl_StackSize.f k t316 t319 = some t351) (c14 : t351 = (t313.length : Int)) (a15 : impl_StackSize.f k t330 t333 = some t352) (c16 : t352 = wrap64 ((t313.length : Int) + 1))
  (a17 : impl_StackRoot.f k t316 t319 = some t353) (a18 : impl_TreeRoot.f k t313 = some t356) (a19 : impl_SameBytes.f t353 t356 = some true) (a21 : impl_StackRoot.f k t330 t333 = some t360) (a22 : impl_TreeRoot.f k (t313 ++ [[5]]) = some t363) (a23 : impl_SameBytes.f t360 t363 = some true) (a25 : impl_StackRoot.f k [] [] = some t367) (a26 : impl_TreeRoot.f k [] = some t370) (a27 : impl_SameBytes.f t367 t370 = some true) (hl : t313.length ≤ 1048576) :
  Calls Try.prog 13 #[.slice A0 l0.length c0] w fun e w' => e = .returned (.bool true) ∧ Below w.heap.size w w' := by
 have hu50 := Try.underlying50
 have HR0 := Aside0.mk hr0
 have HC0 := Aside0.mk hc0
 clear hr0 hc0
 have HB := Aside0.mk (Below.refl w.heap.size w)
 have c2b0 : decide (1048576 < (l0.length : Int)) = false := decide_eq_false (by omega)
 have c2b1 : decide (1048576 < l0.length) = false := decide_eq_false c2
 clear c2
 have A3 := Aside0.mk a3
 have A4 := Aside0.mk a4
 obtain ⟨y324, hy324⟩ : ∃ y_ : List Int, y_ = (([5] : List Int)) := ⟨_, rfl⟩
 have A5 : Aside0 (impl_LeafHash.f k y324 = some t327) := ⟨by rw [hy324]; exact a5⟩
 have Ny324 := Aside0.mk hy324
 have A6 := Aside0.mk a6
 obtain ⟨y338, hy338⟩ : ∃ y_ : List (List Int), y_ = (([] : List (List Int))) := ⟨_, rfl⟩
 have Ny338 := Aside0.mk hy338
 have LMc7 : Aside0 (y338.length + t313.length < 5864062014805) := ⟨by rw [hy338, List.length_nil]; omega⟩
 obtain ⟨y341, hy341⟩ : ∃ y_ : List (List Int), y_ = (y338 ++ t313) := ⟨_, rfl⟩
 have Ny341 := Aside0.mk hy341
 obtain ⟨y344, hy344⟩ : ∃ y_ : List Int, y_ = (([5] : List Int)) := ⟨_, rfl⟩
 have Ny344 := Aside0.mk hy344
 have LMc8 : Aside0 (y341.length < 5864062014805) := ⟨by rw [hy341, hy338, List.nil_append]; omega⟩
 obtain ⟨y347, hy347⟩ : ∃ y_ : List (List Int), y_ = (y341 ++ [y344]) := ⟨_, rfl⟩
 have Ny347 := Aside0.mk hy347
 have A11 := Aside0.mk a11
 have A13 := Aside0.mk a13
 have c14b0 : (t351 == (t313.length : Int)) = true := beq_iff_eq.mpr c14
 have c14b1 : (t351 != (t313.length : Int)) = false := bne_eq_false_iff_eq.mpr c14
 have A15 := Aside0.mk a15
 have c16b0 : (t352 == (wrap64 ((t313.length : Int) + 1))) = true := beq_iff_eq.mpr c16
 have c16w : (t352 == IntKind.i64.wrap ((t313.length : Int) + 1)) = true := beq_iff_eq.mpr (c16.trans (i64_w _).symm)
 have c16b1 : (t352 != (wrap64 ((t313.length : Int) + 1))) = false := bne_eq_false_iff_eq.mpr c16
 have A17 := Aside0.mk a17
 have A18 := Aside0.mk a18
 have A19 := Aside0.mk a19
 have A21 := Aside0.mk a21
 have A22 : Aside0 (impl_TreeRoot.f k y347 = some t363) := ⟨by rw [hy347, hy341, hy338, hy344, List.nil_append]; exact a22⟩
 have A23 := Aside0.mk a23
 have A25 := Aside0.mk a25
 have A26 := Aside0.mk a26
 have A27 := Aside0.mk a27
 clear a3 a4 a5 a6 a11 a13 c14 a15 c16 a17 a18 a19 a21 a22 a23 a25 a26 a27 hl hy324 hy338 hy341 hy344 hy347
 go_enter Try.func13, Try.ntmps13
 try go_wp2_with (first | ((with_reducible refine gate_callee (f := 44) rfl ?_); refine goesL_ (some 13) rfl rfl Try.func44 (by kernel_rfl) rfl #[.slice A0 l0.length c0] rfl mtA ?_; (with_reducible refine (spec_MakeList.calls k _ _ l0 t313 _ ?side1 ?side2 A3.out).mono ?_); (case side1 => exact cA HR0.out); (case side2 => exact HC0.out); rintro e w28 ⟨v314, rfl, ho0, hb⟩; refine ⟨_, rfl, ?_⟩; have n0_ := Aside0.mk (Kd.N_lower (Kd.N_mono (ok' := fun k_ => True) (Kd.S_N (Kd.S_bound ho0)) (fun k_ hk_ => trivial)) (below_size (hbA HB))); have n1_ := Aside0.mk (below_step (hbA HB) hb); clear HB; have HO315 := n0_; have HB := n1_; clear n0_ n1_; (try clear hb); (try clear hb2); (try clear hk); (try clear hi); (try clear ho0); obtain ⟨Ao29, co29, eo29⟩ := Kd.N_slice HO315.out; subst eo29) | ((with_reducible refine gate_callee (f := 52) rfl ?_); refine goesL_ (some 16) rfl rfl Try.func52 (by kernel_rfl) rfl #[.slice Ao29 t313.length co29] rfl mtA ?_; (with_reducible refine (impl_StackOf.calls k _ _ t313 t316 t319 true _ ?side1 ?side2 A4.out).mono ?_); (case side1 => repeat (first | exact (Kd.N_reads' HO315.out).2.2 | (with_reducible refine Kd.C_alloc ?_ _) | (with_reducible refine Kd.C_drewN ?_ _) | (with_reducible refine Kd.C_drew ?_))); (case side2 => exact (Kd.N_reads' HO315.out).2.1); rintro e w30 ⟨v317, v320, rfl, ho0, ho1, hb⟩; refine ⟨_, rfl, ?_⟩; have n0_ := Aside0.mk (Kd.N_mono (Kd.N_told (Kd.N_told (Kd.N_old (by (with_reducible repeat (first | apply Kd.N_alloc | apply Kd.N_drewN | apply Kd.N_drew)); exact HO315.out) hb) (Kd.R_base ho0)) (Kd.S_base ho1)) (fun _ h_ => h_.1)); have n1_ := Aside0.mk (Kd.R_lower ho0 (below_size (hbA HB))); have n2_ := Aside0.mk (Kd.N_lower (Kd.N_mono (ok' := fun k_ => some k_ ≠ (v317 : Value).ownBlock ∧ some k_ ≠ (.slice Ao29 t313.length co29 : Value).ownBlock) (Kd.S_N (Kd.S_bound (Kd.S_apart' ho1 (Kd.R_typed ho0) (by decide)))) (fun k_ hk_ => ⟨hk_.1.2, (Kd.fresh' (Kd.N_lt (by (with_reducible repeat (first | apply Kd.N_alloc | apply Kd.N_drewN | apply Kd.N_drew)); exact HO315.out)) k_ hk_.2.1)⟩)) (below_size (hbA HB))); have n3_ := Aside0.mk (below_step (hbA HB) hb); clear HO315; clear HB; have HO315 := n0_; have HO318 := n1_; have HO321 := n2_; have HB := n3_; clear n0_ n1_ n2_ n3_; (try clear hb); (try clear hb2); (try clear hk); (try clear hi); (try clear ho0); (try clear ho1)) | ((with_reducible refine gate_dst (N := 4) rfl ?_); (try (refine gate_guard (by rfl) ?_; dsimp only)); refine box_event ?hg (N := 4) ?hd (cs := #[.slice none 0 0, .slice none 0 0]) (t := 50) ?hr ?_; (case hd => rfl); (case hg => rfl); (case hr => first | (go_simp; done) | (go_simp; rfl)); intro gb323 hg w31 hbox hb; have n0_ := Aside0.mk (Kd.N_below (Kd.N_elderB (by (with_reducible repeat (first | apply Kd.N_alloc | apply Kd.N_drewN | apply Kd.N_drew)); exact HO315.out) gb323 (Nat.le_of_eq hg.symm)) hb); have n1_ := Aside0.mk (Kd.R_below (rA HO318.out) hb); have n2_ := Aside0.mk (Kd.N_below (Kd.N_elderB (by (with_reducible repeat (first | apply Kd.N_alloc | apply Kd.N_drewN | apply Kd.N_drew)); exact HO321.out) gb323 (Nat.le_of_eq hg.symm)) hb); have n3_ := Aside0.mk (below_step (hbA HB) hb); have n4_ := Aside0.mk (hbox); have n5_ := Aside0.mk ((by rw [hg]; exact (below_size (hbA HB)) : w.heap.size ≤ gb323)); have n6_ := Aside0.mk ((by rw [hg]; exact (below_size (hbA HB)) : w.heap.size ≤ gb323)); clear HO315; clear HO318; clear HO321; clear HB; have HO315 := n0_; have HO318 := n1_; have HO321 := n2_; have HB := n3_; have BK323 := n4_; have GW323 := n5_; have GE323 := n6_; clear n0_ n1_ n2_ n3_ n4_ n5_ n6_; clear hb hbox hg; obtain ⟨Ao32, co32, eo32⟩ := Kd.R_slice HO318.out; subst eo32; have hcz33_0 : w31.cell? ⟨gb323, 0, none⟩ = some (.slice none 0 0) := (blk_cell BK323.out 0).trans rfl; have hcz33_1 : w31.cell? ⟨gb323, 1, none⟩ = some (.slice none 0 0) := (blk_cell BK323.out 1).trans rfl; have hfz33_0 := blk_frozen BK323.out 0; have hfz33_1 := blk_frozen BK323.out 1; obtain ⟨Ao34, co34, eo34⟩ := Kd.N_slice HO321.out; subst eo34))
 have n0_ : Aside0 (Kd.N (Kd.slice 5 (Kd.int .u8)) 23 ((w31.setCell ⟨gb323, 0, none⟩ (.slice Ao32 t316.length co32)).setCell ⟨gb323, 1, none⟩ (.slice Ao34 t319.length co34)) w.heap.size (fun k_ => some k_ ≠ (.slice Ao32 t316.length co32 : Value).ownBlock ∧ some k_ ≠ (.slice Ao34 t319.length co34 : Value).ownBlock ∧ k_ ≠ gb323) (.slice Ao29 t313.length co29) t313) := ⟨by (with_reducible repeat (first | apply Kd.N_alloc | apply Kd.N_drewN | apply Kd.N_drew)); exact Kd.N_mono (Kd.N_far (p := ⟨gb323, 1, none⟩) (Kd.N_far (p := ⟨gb323, 0, none⟩) (Kd.N_mono HO315.out (fun k_ hk => (⟨hk, hk.2⟩ : _ ∧ k_ ≠ gb323))) (fun _ hk => hk.2) (.slice Ao32 t316.length co32)) (fun _ hk => hk.2) (.slice Ao34 t319.length co34)) (fun _ hk => ⟨hk.1.1.1.2, ⟨hk.1.1.2, hk.1.2⟩⟩)⟩
 have n1_ : Aside0 (Kd.R (Kd.int .i64) 3 ((w31.setCell ⟨gb323, 0, none⟩ (.slice Ao32 t316.length co32)).setCell ⟨gb323, 1, none⟩ (.slice Ao34 t319.length co34)) w.heap.size (fun _ => True) (.slice Ao32 t316.length co32) t316) := ⟨by (with_reducible repeat (first | apply Kd.R_alloc | apply Kd.R_drewN | apply Kd.R_drew)); exact Kd.R_mono (Kd.R_far (p := ⟨gb323, 1, none⟩) (Kd.R_far (p := ⟨gb323, 0, none⟩) (Kd.R_types HO318.out BK323.out (by decide)) (fun _ hk => hk.2) (.slice Ao32 t316.length co32)) (fun _ hk => hk.2) (.slice Ao34 t319.length co34)) (fun _ hk => trivial)⟩
 have n2_ : Aside0 (Kd.N (Kd.slice 5 (Kd.int .u8)) 23 ((w31.setCell ⟨gb323, 0, none⟩ (.slice Ao32 t316.length co32)).setCell ⟨gb323, 1, none⟩ (.slice Ao34 t319.length co34)) w.heap.size (fun k_ => some k_ ≠ (.slice Ao29 t313.length co29 : Value).ownBlock ∧ some k_ ≠ (.slice Ao32 t316.length co32 : Value).ownBlock ∧ k_ ≠ gb323) (.slice Ao34 t319.length co34) t319) := ⟨by (with_reducible repeat (first | apply Kd.N_alloc | apply Kd.N_drewN | apply Kd.N_drew)); exact Kd.N_mono (Kd.N_far (p := ⟨gb323, 1, none⟩) (Kd.N_far (p := ⟨gb323, 0, none⟩) (Kd.N_mono HO321.out (fun k_ hk => (⟨hk, hk.2⟩ : _ ∧ k_ ≠ gb323))) (fun _ hk => hk.2) (.slice Ao32 t316.length co32)) (fun _ hk => hk.2) (.slice Ao34 t319.length co34)) (fun _ hk => ⟨hk.1.1.2, ⟨hk.1.1.1, hk.1.2⟩⟩)⟩
 have n3_ : Aside0 (((w31.setCell ⟨gb323, 0, none⟩ (.slice Ao32 t316.length co32)).setCell ⟨gb323, 1, none⟩ (.slice Ao34 t319.length co34)).heap[gb323]? = some (.cells #[.slice Ao32 t316.length co32, .slice Ao34 t319.length co34] 50 (0, 0))) := ⟨by (with_reducible repeat (first | refine blk_drewN ?_ _ | refine blk_drew ?_ | refine blk_alloc ?_ _)); refine blk_put (cs := #[.slice Ao32 t316.length co32, .slice none 0 0]) ?_ 1 _ rfl; (with_reducible repeat (first | refine blk_drewN ?_ _ | refine blk_drew ?_ | refine blk_alloc ?_ _)); refine blk_put (cs := #[.slice none 0 0, .slice none 0 0]) ?_ 0 _ rfl; (with_reducible repeat (first | refine blk_drewN ?_ _ | refine blk_drew ?_ | refine blk_alloc ?_ _)); exact BK323.out⟩
 have n4_ : Aside0 (Below w.heap.size w ((w31.setCell ⟨gb323, 0, none⟩ (.slice Ao32 t316.length co32)).setCell ⟨gb323, 1, none⟩ (.slice Ao34 t319.length co34))) := ⟨hbA HB⟩
 (try clear HO315)
 (try clear HO318)
 (try clear HO321)
 (try clear BK323)
 (try clear HB)
 generalize ((w31.setCell ⟨gb323, 0, none⟩ (.slice Ao32 t316.length co32)).setCell ⟨gb323, 1, none⟩ (.slice Ao34 t319.length co34)) = w35 at n0_ n1_ n2_ n3_ n4_ ⊢
 have HO315 := n0_
 have HO318 := n1_
 have HO321 := n2_
 have BK323 := n3_
 have HB := n4_
 clear n0_ n1_ n2_ n3_ n4_
 have n0_ := Aside0.mk (Kd.N_drew HO315.out)
 have n1_ := Aside0.mk (Kd.R_drew HO318.out)
 have n2_ := Aside0.mk (Kd.N_drew HO321.out)
 have n3_ := Aside0.mk (blk_drew BK323.out)
 have n4_ := Aside0.mk (below_drew1 HB.out)
 clear HO315
 clear HO318
 clear HO321
 clear BK323
 clear HB
 have HO315 := n0_
 have HO318 := n1_
 have HO321 := n2_
 have BK323 := n3_
 have HB := n4_
 clear n0_ n1_ n2_ n3_ n4_
 refine start_ (n := 10) (S := fun w' => w'.cell? ⟨gb323, 0, none⟩ = some (.slice Ao32 t316.length co32) ∧ w'.cell? ⟨gb323, 1, none⟩ = some (.slice Ao34 t319.length co34)) (ds := []) #[false, false, false, false, false, false, false, false, false, false] (by kernel_rfl) rfl rfl ⟨(blk_cell BK323.out 0).trans rfl, (blk_cell BK323.out 1).trans rfl⟩ (fun hHeld => ?_); refine with_tabW laws_FnStack.tab5 laws_FnStack.bits5 (fun HT_ HW_ => ?_)
 generalize w35.drew = w36 at HO315 HO318 HO321 BK323 HB hHeld ⊢
 refine take_ (i := 0) (N := some 20) (v := ?_) (a' := ?_) #[true, false, false, false, false, false, false, false, false, false] rfl rfl (take_ofW HT_.out HW_.out (by kernel_rfl)) (fun _ _ _ h => h) (Or.inl ⟨by rfl, ?_⟩) hHeld ?_ ?_
 rotate_left
 ·
  rintro w' ⟨s0, s1⟩
  go_simp
  with_reducible rfl
 rotate_left
 ·
  simp only [Act.put, List.setIfInBounds_toArray, List.set_cons_zero, List.set_cons_succ, i64_w, i32_w]
  rfl
 refine join_ (σ := Value × Value × Value × Value × Nat) 2 #[true, true, true, true, true, true, true, true, false, false] (fun s_ => [(21, s_.1), (22, s_.2.1), (23, .tuple #[.agg #[s_.2.2.1, s_.2.2.2.1], .bool true]), (6, .pointer (some ⟨s_.2.2.2.2, 0, none⟩)), (19, .tuple #[.agg #[s_.2.2.1, s_.2.2.2.1], .bool true]), (24, .agg #[s_.2.2.1, s_.2.2.2.1]), (25, .bool true)]) (fun s_ w' => (w'.cell? ⟨gb323, 0, none⟩ = some (.slice Ao32 t316.length co32) ∧ w'.cell? ⟨gb323, 1, none⟩ = some (.slice Ao34 t319.length co34)) ∧ (Kd.N (Kd.slice 5 (Kd.int .u8)) 23 w' w.heap.size (fun k_ => some k_ ≠ (.slice Ao32 t316.length co32 : Value).ownBlock ∧ some k_ ≠ (.slice Ao34 t319.length co34 : Value).ownBlock ∧ some k_ ≠ (s_.1 : Value).ownBlock ∧ some k_ ≠ (s_.2.1 : Value).ownBlock ∧ some k_ ≠ (s_.2.2.1 : Value).ownBlock ∧ some k_ ≠ (s_.2.2.2.1 : Value).ownBlock ∧ k_ ≠ gb323 ∧ k_ ≠ s_.2.2.2.2) (.slice Ao29 t313.length co29) t313) ∧ (Kd.R (Kd.int .i64) 3 w' w.heap.size (fun k_ => some k_ ≠ (s_.2.2.1 : Value).ownBlock) (.slice Ao32 t316.length co32) t316) ∧ (Kd.N (Kd.slice 5 (Kd.int .u8)) 23 w' w.heap.size (fun k_ => some k_ ≠ (.slice Ao29 t313.length co29 : Value).ownBlock ∧ some k_ ≠ (.slice Ao32 t316.length co32 : Value).ownBlock ∧ some k_ ≠ (s_.1 : Value).ownBlock ∧ some k_ ≠ (s_.2.1 : Value).ownBlock ∧ some k_ ≠ (s_.2.2.1 : Value).ownBlock ∧ some k_ ≠ (s_.2.2.2.1 : Value).ownBlock ∧ k_ ≠ gb323 ∧ k_ ≠ s_.2.2.2.2) (.slice Ao34 t319.length co34) t319) ∧ (Kd.R (Kd.int .u8) 5 w' w.heap.size (fun k_ => some k_ ≠ (s_.2.1 : Value).ownBlock) s_.1 y324) ∧ (Kd.R (Kd.int .u8) 5 w' w.heap.size (fun k_ => some k_ ≠ (s_.1 : Value).ownBlock) s_.2.1 t327) ∧ (Kd.R (Kd.int .i64) 3 w' w.heap.size (fun k_ => some k_ ≠ (.slice Ao32 t316.length co32 : Value).ownBlock) s_.2.2.1 t330) ∧ (Kd.N (Kd.slice 5 (Kd.int .u8)) 23 w' w.heap.size (fun k_ => some k_ ≠ (.slice Ao29 t313.length co29 : Value).ownBlock ∧ some k_ ≠ (.slice Ao32 t316.length co32 : Value).ownBlock ∧ some k_ ≠ (.slice Ao34 t319.length co34 : Value).ownBlock ∧ some k_ ≠ (s_.1 : Value).ownBlock ∧ some k_ ≠ (s_.2.1 : Value).ownBlock ∧ some k_ ≠ (s_.2.2.1 : Value).ownBlock ∧ k_ ≠ gb323 ∧ k_ ≠ s_.2.2.2.2) s_.2.2.2.1 t333) ∧ (w'.heap[gb323]? = some (.cells #[.slice Ao32 t316.length co32, .slice Ao34 t319.length co34] 50 (0, 0))) ∧ (w'.heap[s_.2.2.2.2]? = some (.cells #[.slice none 0 0, .slice none 0 0] 50 (0, 0))) ∧ (w.heap.size ≤ s_.2.2.2.2) ∧ (w.heap.size ≤ s_.2.2.2.2) ∧ (gb323 ≠ s_.2.2.2.2) ∧ (s_.2.2.2.2 ≠ gb323) ∧ (Below w.heap.size w w')) ?_ ?_
 rotate_left
 ·
  intro hCont
  refine two_ (i := 1) (j := 7) (Ni := some 21) (Nj := some 6) #[true, true, false, false, false, false, false, false, false, false] #[true, false, false, false, false, false, false, true, false, false] rfl rfl rfl rfl (two_of HT_.out (by kernel_rfl)) (by decide) (by decide) (fun K hK => ?_) (fun K hK => ?_)
  ·
   skip
   refine Kd.R_lit_step (Kd.int .u8) _ 5 ?hg (N := 21) ?hd (xs := ([5] : List Int)) (inner := [.int .u8 5]) (ok := fun _ => True) (okp := fun _ => True) ?hr ?hp (fun _ hk => hk) trivial (Below.refl _ _) (Nat.le_refl _) (by simp) ?_; (case hd => rfl); (case hg => rfl); (case hr => first | (go_simp; done) | (go_simp; rfl)); (case hp => exact (Reps.one (show Kd.M (Kd.int .u8) _ _ _ 5 [.int .u8 5] from rfl) (Reps.none _ _)))
   intro v325 w37 ho38 hb hg_ hnew_
   clear hg_ hnew_
   (first | rw [← Ny324.out] at ho38 | (simp only [Int.reduceToNat] at ho38; rw [← Ny324.out] at ho38))
   have n0_ := Aside0.mk (Kd.N_elder' (by (with_reducible repeat (first | apply Kd.N_alloc | apply Kd.N_drewN | apply Kd.N_drew)); exact HO315.out) (Kd.R_base ho38) hb)
   have n1_ := Aside0.mk (Kd.R_below (rA HO318.out) hb)
   have n2_ := Aside0.mk (Kd.N_elder' (by (with_reducible repeat (first | apply Kd.N_alloc | apply Kd.N_drewN | apply Kd.N_drew)); exact HO321.out) (Kd.R_base ho38) hb)
   have n3_ := Aside0.mk (Kd.R_lower ho38 (below_size (hbA HB)))
   have n4_ := Aside0.mk (blk_below (g := gb323) (o := .cells #[.slice Ao32 t316.length co32, .slice Ao34 t319.length co34] 50 (0, 0)) (bkA BK323.out) hb)
   have n5_ := Aside0.mk (below_step (hbA HB) hb)
   clear HO315
   clear HO318
   clear HO321
   clear BK323
   clear HB
   have HO315 := n0_
   have HO318 := n1_
   have HO321 := n2_
   have HO326 := n3_
   have BK323 := n4_
   have HB := n5_
   clear n0_ n1_ n2_ n3_ n4_ n5_
   clear hb ho38
   obtain ⟨Ao39, co39, eo39⟩ := Kd.R_slice HO326.out
   (first | subst eo39 | (injection eo39 with f1_ f2_ f3_; have f4_ := f1_.symm; have f5_ := f3_.symm; clear f1_ f2_ f3_; subst f4_; subst f5_))
   refine hK.out _ _ ⟨(blk_cell BK323.out 0).trans rfl, (blk_cell BK323.out 1).trans rfl⟩ (fun hHeld => ?_)
   clear hK K
   refine norm_ (a' := ?_) ?_ ?_
   rotate_left
   ·
    show Act.put _ (some 21) _ = _
    simp only [Act.put, List.setIfInBounds_toArray, List.set_cons_zero, List.set_cons_succ, i64_w, i32_w]
    rfl
   refine two_ (i := 2) (j := 7) (Ni := some 22) (Nj := some 6) #[true, true, true, false, false, false, false, false, false, false] #[true, true, false, false, false, false, false, true, false, false] rfl rfl rfl rfl (two_of HT_.out (by kernel_rfl)) (by decide) (by decide) (fun K hK => ?_) (fun K hK => ?_)
   ·
    skip
    refine goes_ Try.func31 (by kernel_rfl) rfl #[.slice Ao39 y324.length co39] (by rfl) rfl rfl mtA ?_
    with_reducible refine (impl_LeafHash.calls k _ _ y324 t327 _ ?side1 ?side2 A5.out).mono ?_
    (case side1 => repeat (first | exact (Kd.R_reads' HO326.out).2.2 | (with_reducible refine Kd.C_alloc ?_ _) | (with_reducible refine Kd.C_drewN ?_ _) | (with_reducible refine Kd.C_drew ?_)))
    (case side2 => exact (Kd.R_reads' HO326.out).2.1)
    rintro e w40 ⟨v328, rfl, ho0, hb⟩
    refine ⟨_, rfl, ?_⟩
    have n0_ := Aside0.mk (Kd.N_elder' (by (with_reducible repeat (first | apply Kd.N_alloc | apply Kd.N_drewN | apply Kd.N_drew)); exact HO315.out) (Kd.R_base ho0) hb)
    have n1_ := Aside0.mk (Kd.R_below (rA HO318.out) hb)
    have n2_ := Aside0.mk (Kd.N_elder' (by (with_reducible repeat (first | apply Kd.N_alloc | apply Kd.N_drewN | apply Kd.N_drew)); exact HO321.out) (Kd.R_base ho0) hb)
    have n3_ := Aside0.mk (Kd.R_elder' (rA HO326.out) (Kd.R_base ho0) hb)
    have n4_ := Aside0.mk (Kd.R_lower (Kd.R_new' ho0 (Kd.R_lt (rA HO326.out))) (below_size (hbA HB)))
    have n5_ := Aside0.mk (blk_below (g := gb323) (o := .cells #[.slice Ao32 t316.length co32, .slice Ao34 t319.length co34] 50 (0, 0)) (bkA BK323.out) hb)
    have n6_ := Aside0.mk (below_step (hbA HB) hb)
    clear HO315
    clear HO318
    clear HO321
    clear HO326
    clear BK323
    clear HB
    have HO315 := n0_
    have HO318 := n1_
    have HO321 := n2_
    have HO326 := n3_
    have HO329 := n4_
    have BK323 := n5_
    have HB := n6_
    clear n0_ n1_ n2_ n3_ n4_ n5_ n6_
    (try clear hb)
    (try clear hb2)
    (try clear hk)
    (try clear hi)
    (try clear ho0)
    obtain ⟨Ao41, co41, eo41⟩ := Kd.R_slice HO329.out
    (first | subst eo41 | (injection eo41 with f1_ f2_ f3_; have f4_ := f1_.symm; have f5_ := f3_.symm; clear f1_ f2_ f3_; subst f4_; subst f5_))
    refine hK.out _ _ ⟨(blk_cell BK323.out 0).trans rfl, (blk_cell BK323.out 1).trans rfl⟩ (fun hHeld => ?_)
    clear hK K
    refine norm_ (a' := ?_) ?_ ?_
    rotate_left
    ·
     show Act.put _ (some 22) _ = _
     simp only [Act.put, List.setIfInBounds_toArray, List.set_cons_zero, List.set_cons_succ, i64_w, i32_w]
     rfl
    refine two_ (i := 3) (j := 7) (Ni := some 23) (Nj := some 6) #[true, true, true, true, false, false, false, false, false, false] #[true, true, true, false, false, false, false, true, false, false] rfl rfl rfl rfl (two_of HT_.out (by kernel_rfl)) (by decide) (by decide) (fun K hK => ?_) (fun K hK => ?_)
    ·
     skip
     refine goes_ Try.func53 (by kernel_rfl) rfl #[.agg #[.slice Ao32 t316.length co32, .slice Ao34 t319.length co34], .slice Ao41 t327.length co41] (by rfl) rfl rfl mtA ?_
     with_reducible refine (impl_StackPush.calls k _ _ t316 _ _ t319 _ _ t327 t330 t333 true _ ?side1 ?side2 ?side3 ?side4 ?side5 ?side6 A6.out).mono ?_
     (case side1 => repeat (first | exact (Kd.R_reads' HO318.out).2.2 | (with_reducible refine Kd.C_alloc ?_ _) | (with_reducible refine Kd.C_drewN ?_ _) | (with_reducible refine Kd.C_drew ?_)))
     (case side2 => exact (Kd.R_reads' HO318.out).2.1)
     (case side3 => repeat (first | exact (Kd.N_reads' HO321.out).2.2 | (with_reducible refine Kd.C_alloc ?_ _) | (with_reducible refine Kd.C_drewN ?_ _) | (with_reducible refine Kd.C_drew ?_)))
     (case side4 => exact (Kd.N_reads' HO321.out).2.1)
     (case side5 => repeat (first | exact (Kd.R_reads' HO329.out).2.2 | (with_reducible refine Kd.C_alloc ?_ _) | (with_reducible refine Kd.C_drewN ?_ _) | (with_reducible refine Kd.C_drew ?_)))
     (case side6 => exact (Kd.R_reads' HO329.out).2.1)
     rintro e w42 ⟨v331, v334, rfl, ho0, ho1, hb⟩
     refine ⟨_, rfl, ?_⟩
     have n0_ := Aside0.mk (Kd.N_mono (Kd.N_told (Kd.N_told (Kd.N_old (by (with_reducible repeat (first | apply Kd.N_alloc | apply Kd.N_drewN | apply Kd.N_drew)); exact HO315.out) hb) (Kd.R_base ho0)) (Kd.S_base ho1)) (fun _ h_ => h_.1))
     have n1_ := Aside0.mk (Kd.R_elder' (rA HO318.out) (Kd.R_base ho0) hb)
     have n2_ := Aside0.mk (Kd.N_mono (Kd.N_told (Kd.N_told (Kd.N_old (by (with_reducible repeat (first | apply Kd.N_alloc | apply Kd.N_drewN | apply Kd.N_drew)); exact HO321.out) hb) (Kd.R_base ho0)) (Kd.S_base ho1)) (fun _ h_ => h_.1))
     have n3_ := Aside0.mk (Kd.R_below (rA HO326.out) hb)
     have n4_ := Aside0.mk (Kd.R_below (rA HO329.out) hb)
     have n5_ := Aside0.mk (Kd.R_lower (Kd.R_new' ho0 (Kd.R_lt (rA HO318.out))) (below_size (hbA HB)))
     have n6_ := Aside0.mk (Kd.N_lower (Kd.N_mono (ok' := fun k_ => some k_ ≠ (v331 : Value).ownBlock ∧ some k_ ≠ (.slice Ao29 t313.length co29 : Value).ownBlock ∧ some k_ ≠ (.slice Ao32 t316.length co32 : Value).ownBlock ∧ some k_ ≠ (.slice Ao34 t319.length co34 : Value).ownBlock ∧ some k_ ≠ (.slice Ao39 y324.length co39 : Value).ownBlock ∧ some k_ ≠ (.slice Ao41 t327.length co41 : Value).ownBlock ∧ k_ ≠ gb323) (Kd.S_N (Kd.S_bound (Kd.S_apart' ho1 (Kd.R_typed ho0) (by decide)))) (fun k_ hk_ => ⟨hk_.1.2, (Kd.fresh' (Kd.N_lt (by (with_reducible repeat (first | apply Kd.N_alloc | apply Kd.N_drewN | apply Kd.N_drew)); exact HO315.out)) k_ hk_.2.1), (Kd.fresh' (Kd.R_lt (rA HO318.out)) k_ hk_.2.1), (Kd.fresh' (Kd.N_lt (by (with_reducible repeat (first | apply Kd.N_alloc | apply Kd.N_drewN | apply Kd.N_drew)); exact HO321.out)) k_ hk_.2.1), (Kd.fresh' (Kd.R_lt (rA HO326.out)) k_ hk_.2.1), (Kd.fresh' (Kd.R_lt (rA HO329.out)) k_ hk_.2.1), (Kd.freshB (g := gb323) (o := .cells #[.slice Ao32 t316.length co32, .slice Ao34 t319.length co34] 50 (0, 0)) (bkA BK323.out) k_ hk_.2.1)⟩)) (below_size (hbA HB)))
     have n7_ := Aside0.mk (blk_below (g := gb323) (o := .cells #[.slice Ao32 t316.length co32, .slice Ao34 t319.length co34] 50 (0, 0)) (bkA BK323.out) hb)
     have n8_ := Aside0.mk (below_step (hbA HB) hb)
     clear HO315
     clear HO318
     clear HO321
     clear HO326
     clear HO329
     clear BK323
     clear HB
     have HO315 := n0_
     have HO318 := n1_
     have HO321 := n2_
     have HO326 := n3_
     have HO329 := n4_
     have HO332 := n5_
     have HO335 := n6_
     have BK323 := n7_
     have HB := n8_
     clear n0_ n1_ n2_ n3_ n4_ n5_ n6_ n7_ n8_
     (try clear hb)
     (try clear hb2)
     (try clear hk)
     (try clear hi)
     (try clear ho0)
     (try clear ho1)
     refine hK.out _ _ ⟨(blk_cell BK323.out 0).trans rfl, (blk_cell BK323.out 1).trans rfl⟩ (fun hHeld => ?_)
     clear hK K
     refine norm_ (a' := ?_) ?_ ?_
     rotate_left
     ·
      show Act.put _ (some 23) _ = _
      simp only [Act.put, List.setIfInBounds_toArray, List.set_cons_zero, List.set_cons_succ, i64_w, i32_w]
      rfl
     refine pure_ (i := 4) (N := some 19) (v := ?_) (a' := ?_) #[true, true, true, true, true, false, false, false, false, false] rfl rfl (any_of HT_.out (by kernel_rfl)) (fun _ _ _ h => h) (Or.inl ⟨by rfl, ?_⟩) ?_ ?_
     rotate_left
     ·
      intro w'
      go_simp
      with_reducible rfl
     rotate_left
     ·
      simp only [Act.put, List.setIfInBounds_toArray, List.set_cons_zero, List.set_cons_succ, i64_w, i32_w]
      rfl
     refine pure_ (i := 5) (N := some 24) (v := ?_) (a' := ?_) #[true, true, true, true, true, true, false, false, false, false] rfl rfl (any_of HT_.out (by kernel_rfl)) (fun _ _ _ h => h) (Or.inl ⟨by rfl, ?_⟩) ?_ ?_
     rotate_left
     ·
      intro w'
      go_simp
      with_reducible rfl
     rotate_left
     ·
      simp only [Act.put, List.setIfInBounds_toArray, List.set_cons_zero, List.set_cons_succ, i64_w, i32_w]
      rfl
     refine pure_ (i := 6) (N := some 25) (v := ?_) (a' := ?_) #[true, true, true, true, true, true, true, false, false, false] rfl rfl (any_of HT_.out (by kernel_rfl)) (fun _ _ _ h => h) (Or.inl ⟨by rfl, ?_⟩) ?_ ?_
     rotate_left
     ·
      intro w'
      go_simp
      with_reducible rfl
     rotate_left
     ·
      simp only [Act.put, List.setIfInBounds_toArray, List.set_cons_zero, List.set_cons_succ, i64_w, i32_w]
      rfl
     refine one_ (i := 7) (N := some 6) #[true, true, true, true, true, true, true, true, false, false] rfl rfl (one_of HT_.out (by kernel_rfl)) (by decide) (fun K hK => ?_)
     refine box_step ?hg (N := 6) ?hd (cs := #[.slice none 0 0, .slice none 0 0]) (t := 50) ?hr ?_; (case hd => rfl); (case hg => rfl); (case hr => first | (go_simp; done) | (go_simp; rfl))
     intro gb337 hg w43 hbox hb
     have n0_ := Aside0.mk (Kd.N_below (Kd.N_elderB (by (with_reducible repeat (first | apply Kd.N_alloc | apply Kd.N_drewN | apply Kd.N_drew)); exact HO315.out) gb337 (Nat.le_of_eq hg.symm)) hb)
     have n1_ := Aside0.mk (Kd.R_below (rA HO318.out) hb)
     have n2_ := Aside0.mk (Kd.N_below (Kd.N_elderB (by (with_reducible repeat (first | apply Kd.N_alloc | apply Kd.N_drewN | apply Kd.N_drew)); exact HO321.out) gb337 (Nat.le_of_eq hg.symm)) hb)
     have n3_ := Aside0.mk (Kd.R_below (rA HO326.out) hb)
     have n4_ := Aside0.mk (Kd.R_below (rA HO329.out) hb)
     have n5_ := Aside0.mk (Kd.R_below (rA HO332.out) hb)
     have n6_ := Aside0.mk (Kd.N_below (Kd.N_elderB (by (with_reducible repeat (first | apply Kd.N_alloc | apply Kd.N_drewN | apply Kd.N_drew)); exact HO335.out) gb337 (Nat.le_of_eq hg.symm)) hb)
     have n7_ := Aside0.mk (blk_below (g := gb323) (o := .cells #[.slice Ao32 t316.length co32, .slice Ao34 t319.length co34] 50 (0, 0)) (bkA BK323.out) hb)
     have n8_ := Aside0.mk (below_step (hbA HB) hb)
     have n9_ := Aside0.mk (hbox)
     have n10_ := Aside0.mk ((by rw [hg]; exact (below_size (hbA HB)) : w.heap.size ≤ gb337))
     have n11_ := Aside0.mk ((by rw [hg]; exact (below_size (hbA HB)) : w.heap.size ≤ gb337))
     have n12_ := Aside0.mk ((by rw [hg]; exact Nat.ne_of_lt (blk_lt (g := gb323) (o := .cells #[.slice Ao32 t316.length co32, .slice Ao34 t319.length co34] 50 (0, 0)) (bkA BK323.out)) : gb323 ≠ gb337))
     have n13_ := Aside0.mk ((by rw [hg]; exact Nat.ne_of_gt (blk_lt (g := gb323) (o := .cells #[.slice Ao32 t316.length co32, .slice Ao34 t319.length co34] 50 (0, 0)) (bkA BK323.out)) : gb337 ≠ gb323))
     clear HO315
     clear HO318
     clear HO321
     clear HO326
     clear HO329
     clear HO332
     clear HO335
     clear BK323
     clear HB
     have HO315 := n0_
     have HO318 := n1_
     have HO321 := n2_
     have HO326 := n3_
     have HO329 := n4_
     have HO332 := n5_
     have HO335 := n6_
     have BK323 := n7_
     have HB := n8_
     have BK337 := n9_
     have GW337 := n10_
     have GE337 := n11_
     have NB323_337 := n12_
     have NB337_323 := n13_
     clear n0_ n1_ n2_ n3_ n4_ n5_ n6_ n7_ n8_ n9_ n10_ n11_ n12_ n13_
     clear hb hbox hg
     refine hK.out _ _ ⟨(blk_cell BK323.out 0).trans rfl, (blk_cell BK323.out 1).trans rfl⟩ (fun hHeld => ?_)
     clear hK K
     refine norm_ (a' := ?_) ?_ ?_
     rotate_left
     ·
      show Act.put _ (some 6) _ = _
      simp only [Act.put, List.setIfInBounds_toArray, List.set_cons_zero, List.set_cons_succ, i64_w, i32_w]
      rfl
     exact norm_ (by simp only [putAll, Act.put, List.setIfInBounds_toArray, List.set_cons_zero, List.set_cons_succ]) (hCont (.slice Ao39 y324.length co39, .slice Ao41 t327.length co41, v331, v334, gb337) _ ⟨hHeld, (by (with_reducible repeat (first | apply Kd.N_alloc | apply Kd.N_drewN | apply Kd.N_drew)); exact Kd.N_mono HO315.out (fun _ hk => ⟨hk.1.1.1.1.1.1, ⟨hk.1.1.1.1.1.2.1, ⟨hk.1.1.1.1.2, ⟨hk.1.1.1.2, ⟨hk.1.1.2, ⟨hk.1.2, ⟨hk.1.1.1.1.1.2.2, hk.2⟩⟩⟩⟩⟩⟩⟩)), (by (with_reducible repeat (first | apply Kd.R_alloc | apply Kd.R_drewN | apply Kd.R_drew)); exact Kd.R_mono HO318.out (fun _ hk => hk.2)), (by (with_reducible repeat (first | apply Kd.N_alloc | apply Kd.N_drewN | apply Kd.N_drew)); exact Kd.N_mono HO321.out (fun _ hk => ⟨hk.1.1.1.1.1.1, ⟨hk.1.1.1.1.1.2.1, ⟨hk.1.1.1.1.2, ⟨hk.1.1.1.2, ⟨hk.1.1.2, ⟨hk.1.2, ⟨hk.1.1.1.1.1.2.2, hk.2⟩⟩⟩⟩⟩⟩⟩)), (by (with_reducible repeat (first | apply Kd.R_alloc | apply Kd.R_drewN | apply Kd.R_drew)); exact Kd.R_mono HO326.out (fun _ hk => hk.2)), (by (with_reducible repeat (first | apply Kd.R_alloc | apply Kd.R_drewN | apply Kd.R_drew)); exact Kd.R_mono HO329.out (fun _ hk => hk.2)), (by (with_reducible repeat (first | apply Kd.R_alloc | apply Kd.R_drewN | apply Kd.R_drew)); exact Kd.R_mono HO332.out (fun _ hk => hk.2)), (by (with_reducible repeat (first | apply Kd.N_alloc | apply Kd.N_drewN | apply Kd.N_drew)); exact Kd.N_mono HO335.out (fun _ hk => ⟨hk.1.2.1, ⟨hk.1.2.2.1, ⟨hk.1.2.2.2.1, ⟨hk.1.2.2.2.2.1, ⟨hk.1.2.2.2.2.2.1, ⟨hk.1.1, ⟨hk.1.2.2.2.2.2.2, hk.2⟩⟩⟩⟩⟩⟩⟩)), (bkA BK323.out), (bkA BK337.out), GW337.out, GE337.out, NB323_337.out, NB337_323.out, (hbA HB)⟩)
    ·
     skip
     refine box_step ?hg (N := 6) ?hd (cs := #[.slice none 0 0, .slice none 0 0]) (t := 50) ?hr ?_; (case hd => rfl); (case hg => rfl); (case hr => first | (go_simp; done) | (go_simp; rfl))
     intro gb337 hg w41 hbox hb
     have n0_ := Aside0.mk (Kd.N_below (Kd.N_elderB (by (with_reducible repeat (first | apply Kd.N_alloc | apply Kd.N_drewN | apply Kd.N_drew)); exact HO315.out) gb337 (Nat.le_of_eq hg.symm)) hb)
     have n1_ := Aside0.mk (Kd.R_below (rA HO318.out) hb)
     have n2_ := Aside0.mk (Kd.N_below (Kd.N_elderB (by (with_reducible repeat (first | apply Kd.N_alloc | apply Kd.N_drewN | apply Kd.N_drew)); exact HO321.out) gb337 (Nat.le_of_eq hg.symm)) hb)
     have n3_ := Aside0.mk (Kd.R_below (rA HO326.out) hb)
     have n4_ := Aside0.mk (Kd.R_below (rA HO329.out) hb)
     have n5_ := Aside0.mk (blk_below (g := gb323) (o := .cells #[.slice Ao32 t316.length co32, .slice Ao34 t319.length co34] 50 (0, 0)) (bkA BK323.out) hb)
     have n6_ := Aside0.mk (below_step (hbA HB) hb)
     have n7_ := Aside0.mk (hbox)
     have n8_ := Aside0.mk ((by rw [hg]; exact (below_size (hbA HB)) : w.heap.size ≤ gb337))
     have n9_ := Aside0.mk ((by rw [hg]; exact (below_size (hbA HB)) : w.heap.size ≤ gb337))
     have n10_ := Aside0.mk ((by rw [hg]; exact Nat.ne_of_lt (blk_lt (g := gb323) (o := .cells #[.slice Ao32 t316.length co32, .slice Ao34 t319.length co34] 50 (0, 0)) (bkA BK323.out)) : gb323 ≠ gb337))
     have n11_ := Aside0.mk ((by rw [hg]; exact Nat.ne_of_gt (blk_lt (g := gb323) (o := .cells #[.slice Ao32 t316.length co32, .slice Ao34 t319.length co34] 50 (0, 0)) (bkA BK323.out)) : gb337 ≠ gb323))
     clear HO315
     clear HO318
     clear HO321
     clear HO326
     clear HO329
     clear BK323
     clear HB
     have HO315 := n0_
     have HO318 := n1_
     have HO321 := n2_
     have HO326 := n3_
     have HO329 := n4_
     have BK323 := n5_
     have HB := n6_
     have BK337 := n7_
     have GW337 := n8_
     have GE337 := n9_
     have NB323_337 := n10_
     have NB337_323 := n11_
     clear n0_ n1_ n2_ n3_ n4_ n5_ n6_ n7_ n8_ n9_ n10_ n11_
     clear hb hbox hg
     obtain ⟨Ao42, co42, eo42⟩ := Kd.R_slice HO329.out
     (first | subst eo42 | (injection eo42 with f1_ f2_ f3_; have f4_ := f1_.symm; have f5_ := f3_.symm; clear f1_ f2_ f3_; subst f4_; subst f5_))
     refine hK.out _ _ ⟨(blk_cell BK323.out 0).trans rfl, (blk_cell BK323.out 1).trans rfl⟩ (fun hHeld => ?_)
     clear hK K
     refine norm_ (a' := ?_) ?_ ?_
     rotate_left
     ·
      show Act.put _ (some 6) _ = _
      simp only [Act.put, List.setIfInBounds_toArray, List.set_cons_zero, List.set_cons_succ, i64_w, i32_w]
      rfl
     refine one_ (i := 3) (N := some 23) #[true, true, true, true, false, false, false, true, false, false] rfl rfl (one_of HT_.out (by kernel_rfl)) (by decide) (fun K hK => ?_)
     refine goes_ Try.func53 (by kernel_rfl) rfl #[.agg #[.slice Ao32 t316.length co32, .slice Ao34 t319.length co34], .slice Ao42 t327.length co42] (by rfl) rfl rfl mtA ?_
     with_reducible refine (impl_StackPush.calls k _ _ t316 _ _ t319 _ _ t327 t330 t333 true _ ?side1 ?side2 ?side3 ?side4 ?side5 ?side6 A6.out).mono ?_
     (case side1 => repeat (first | exact (Kd.R_reads' HO318.out).2.2 | (with_reducible refine Kd.C_alloc ?_ _) | (with_reducible refine Kd.C_drewN ?_ _) | (with_reducible refine Kd.C_drew ?_)))
     (case side2 => exact (Kd.R_reads' HO318.out).2.1)
     (case side3 => repeat (first | exact (Kd.N_reads' HO321.out).2.2 | (with_reducible refine Kd.C_alloc ?_ _) | (with_reducible refine Kd.C_drewN ?_ _) | (with_reducible refine Kd.C_drew ?_)))
     (case side4 => exact (Kd.N_reads' HO321.out).2.1)
     (case side5 => repeat (first | exact (Kd.R_reads' HO329.out).2.2 | (with_reducible refine Kd.C_alloc ?_ _) | (with_reducible refine Kd.C_drewN ?_ _) | (with_reducible refine Kd.C_drew ?_)))
     (case side6 => exact (Kd.R_reads' HO329.out).2.1)
     rintro e w43 ⟨v331, v334, rfl, ho0, ho1, hb⟩
     refine ⟨_, rfl, ?_⟩
     have n0_ := Aside0.mk (Kd.N_mono (Kd.N_told (Kd.N_told (Kd.N_old (by (with_reducible repeat (first | apply Kd.N_alloc | apply Kd.N_drewN | apply Kd.N_drew)); exact HO315.out) hb) (Kd.R_base ho0)) (Kd.S_base ho1)) (fun _ h_ => h_.1))
     have n1_ := Aside0.mk (Kd.R_elder' (rA HO318.out) (Kd.R_base ho0) hb)
     have n2_ := Aside0.mk (Kd.N_mono (Kd.N_told (Kd.N_told (Kd.N_old (by (with_reducible repeat (first | apply Kd.N_alloc | apply Kd.N_drewN | apply Kd.N_drew)); exact HO321.out) hb) (Kd.R_base ho0)) (Kd.S_base ho1)) (fun _ h_ => h_.1))
     have n3_ := Aside0.mk (Kd.R_below (rA HO326.out) hb)
     have n4_ := Aside0.mk (Kd.R_below (rA HO329.out) hb)
     have n5_ := Aside0.mk (Kd.R_lower (Kd.R_new' ho0 (Kd.R_lt (rA HO318.out))) (below_size (hbA HB)))
     have n6_ := Aside0.mk (Kd.N_lower (Kd.N_mono (ok' := fun k_ => some k_ ≠ (v331 : Value).ownBlock ∧ some k_ ≠ (.slice Ao29 t313.length co29 : Value).ownBlock ∧ some k_ ≠ (.slice Ao32 t316.length co32 : Value).ownBlock ∧ some k_ ≠ (.slice Ao34 t319.length co34 : Value).ownBlock ∧ some k_ ≠ (.slice Ao39 y324.length co39 : Value).ownBlock ∧ some k_ ≠ (.slice Ao42 t327.length co42 : Value).ownBlock ∧ k_ ≠ gb323 ∧ k_ ≠ gb337) (Kd.S_N (Kd.S_bound (Kd.S_apart' ho1 (Kd.R_typed ho0) (by decide)))) (fun k_ hk_ => ⟨hk_.1.2, (Kd.fresh' (Kd.N_lt (by (with_reducible repeat (first | apply Kd.N_alloc | apply Kd.N_drewN | apply Kd.N_drew)); exact HO315.out)) k_ hk_.2.1), (Kd.fresh' (Kd.R_lt (rA HO318.out)) k_ hk_.2.1), (Kd.fresh' (Kd.N_lt (by (with_reducible repeat (first | apply Kd.N_alloc | apply Kd.N_drewN | apply Kd.N_drew)); exact HO321.out)) k_ hk_.2.1), (Kd.fresh' (Kd.R_lt (rA HO326.out)) k_ hk_.2.1), (Kd.fresh' (Kd.R_lt (rA HO329.out)) k_ hk_.2.1), (Kd.freshB (g := gb323) (o := .cells #[.slice Ao32 t316.length co32, .slice Ao34 t319.length co34] 50 (0, 0)) (bkA BK323.out) k_ hk_.2.1), (Kd.freshB (g := gb337) (o := .cells #[.slice none 0 0, .slice none 0 0] 50 (0, 0)) (bkA BK337.out) k_ hk_.2.1)⟩)) (below_size (hbA HB)))
     have n7_ := Aside0.mk (blk_below (g := gb323) (o := .cells #[.slice Ao32 t316.length co32, .slice Ao34 t319.length co34] 50 (0, 0)) (bkA BK323.out) hb)
     have n8_ := Aside0.mk (blk_below (g := gb337) (o := .cells #[.slice none 0 0, .slice none 0 0] 50 (0, 0)) (bkA BK337.out) hb)
     have n9_ := Aside0.mk (below_step (hbA HB) hb)
     clear HO315
     clear HO318
     clear HO321
     clear HO326
     clear HO329
     clear BK323
     clear BK337
     clear HB
     have HO315 := n0_
     have HO318 := n1_
     have HO321 := n2_
     have HO326 := n3_
     have HO329 := n4_
     have HO332 := n5_
     have HO335 := n6_
     have BK323 := n7_
     have BK337 := n8_
     have HB := n9_
     clear n0_ n1_ n2_ n3_ n4_ n5_ n6_ n7_ n8_ n9_
     (try clear hb)
     (try clear hb2)
     (try clear hk)
     (try clear hi)
     (try clear ho0)
     (try clear ho1)
     refine hK.out _ _ ⟨(blk_cell BK323.out 0).trans rfl, (blk_cell BK323.out 1).trans rfl⟩ (fun hHeld => ?_)
     clear hK K
     refine norm_ (a' := ?_) ?_ ?_
     rotate_left
     ·
      show Act.put _ (some 23) _ = _
      simp only [Act.put, List.setIfInBounds_toArray, List.set_cons_zero, List.set_cons_succ, i64_w, i32_w]
      rfl
     refine pure_ (i := 4) (N := some 19) (v := ?_) (a' := ?_) #[true, true, true, true, true, false, false, true, false, false] rfl rfl (any_of HT_.out (by kernel_rfl)) (fun _ _ _ h => h) (Or.inl ⟨by rfl, ?_⟩) ?_ ?_
     rotate_left
     ·
      intro w'
      go_simp
      with_reducible rfl
     rotate_left
     ·
      simp only [Act.put, List.setIfInBounds_toArray, List.set_cons_zero, List.set_cons_succ, i64_w, i32_w]
      rfl
     refine pure_ (i := 5) (N := some 24) (v := ?_) (a' := ?_) #[true, true, true, true, true, true, false, true, false, false] rfl rfl (any_of HT_.out (by kernel_rfl)) (fun _ _ _ h => h) (Or.inl ⟨by rfl, ?_⟩) ?_ ?_
     rotate_left
     ·
      intro w'
      go_simp
      with_reducible rfl
     rotate_left
     ·
      simp only [Act.put, List.setIfInBounds_toArray, List.set_cons_zero, List.set_cons_succ, i64_w, i32_w]
      rfl
     refine pure_ (i := 6) (N := some 25) (v := ?_) (a' := ?_) #[true, true, true, true, true, true, true, true, false, false] rfl rfl (any_of HT_.out (by kernel_rfl)) (fun _ _ _ h => h) (Or.inl ⟨by rfl, ?_⟩) ?_ ?_
     rotate_left
     ·
      intro w'
      go_simp
      with_reducible rfl
     rotate_left
     ·
      simp only [Act.put, List.setIfInBounds_toArray, List.set_cons_zero, List.set_cons_succ, i64_w, i32_w]
      rfl
     exact norm_ (by simp only [putAll, Act.put, List.setIfInBounds_toArray, List.set_cons_zero, List.set_cons_succ]) (hCont (.slice Ao39 y324.length co39, .slice Ao42 t327.length co42, v331, v334, gb337) _ ⟨hHeld, (by (with_reducible repeat (first | apply Kd.N_alloc | apply Kd.N_drewN | apply Kd.N_drew)); exact Kd.N_mono HO315.out (fun _ hk => ⟨hk.1.1.1.1.1.1, ⟨hk.1.1.1.1.1.2.1, ⟨hk.1.1.1.1.2, ⟨hk.1.1.1.2, ⟨hk.1.2, ⟨hk.2, ⟨hk.1.1.1.1.1.2.2, hk.1.1.2⟩⟩⟩⟩⟩⟩⟩)), (by (with_reducible repeat (first | apply Kd.R_alloc | apply Kd.R_drewN | apply Kd.R_drew)); exact Kd.R_mono HO318.out (fun _ hk => hk.2)), (by (with_reducible repeat (first | apply Kd.N_alloc | apply Kd.N_drewN | apply Kd.N_drew)); exact Kd.N_mono HO321.out (fun _ hk => ⟨hk.1.1.1.1.1.1, ⟨hk.1.1.1.1.1.2.1, ⟨hk.1.1.1.1.2, ⟨hk.1.1.1.2, ⟨hk.1.2, ⟨hk.2, ⟨hk.1.1.1.1.1.2.2, hk.1.1.2⟩⟩⟩⟩⟩⟩⟩)), (by (with_reducible repeat (first | apply Kd.R_alloc | apply Kd.R_drewN | apply Kd.R_drew)); exact Kd.R_mono HO326.out (fun _ hk => hk.2)), (by (with_reducible repeat (first | apply Kd.R_alloc | apply Kd.R_drewN | apply Kd.R_drew)); exact Kd.R_mono HO329.out (fun _ hk => hk.2)), (by (with_reducible repeat (first | apply Kd.R_alloc | apply Kd.R_drewN | apply Kd.R_drew)); exact Kd.R_mono HO332.out (fun _ hk => hk.2)), (by (with_reducible repeat (first | apply Kd.N_alloc | apply Kd.N_drewN | apply Kd.N_drew)); exact Kd.N_mono HO335.out (fun _ hk => ⟨hk.2.1, ⟨hk.2.2.1, ⟨hk.2.2.2.1, ⟨hk.2.2.2.2.1, ⟨hk.2.2.2.2.2.1, ⟨hk.1, ⟨hk.2.2.2.2.2.2.1, hk.2.2.2.2.2.2.2⟩⟩⟩⟩⟩⟩⟩)), (bkA BK323.out), (bkA BK337.out), GW337.out, GE337.out, NB323_337.out, NB337_323.out, (hbA HB)⟩)
   ·
    skip
    refine box_step ?hg (N := 6) ?hd (cs := #[.slice none 0 0, .slice none 0 0]) (t := 50) ?hr ?_; (case hd => rfl); (case hg => rfl); (case hr => first | (go_simp; done) | (go_simp; rfl))
    intro gb337 hg w39 hbox hb
    have n0_ := Aside0.mk (Kd.N_below (Kd.N_elderB (by (with_reducible repeat (first | apply Kd.N_alloc | apply Kd.N_drewN | apply Kd.N_drew)); exact HO315.out) gb337 (Nat.le_of_eq hg.symm)) hb)
    have n1_ := Aside0.mk (Kd.R_below (rA HO318.out) hb)
    have n2_ := Aside0.mk (Kd.N_below (Kd.N_elderB (by (with_reducible repeat (first | apply Kd.N_alloc | apply Kd.N_drewN | apply Kd.N_drew)); exact HO321.out) gb337 (Nat.le_of_eq hg.symm)) hb)
    have n3_ := Aside0.mk (Kd.R_below (rA HO326.out) hb)
    have n4_ := Aside0.mk (blk_below (g := gb323) (o := .cells #[.slice Ao32 t316.length co32, .slice Ao34 t319.length co34] 50 (0, 0)) (bkA BK323.out) hb)
    have n5_ := Aside0.mk (below_step (hbA HB) hb)
    have n6_ := Aside0.mk (hbox)
    have n7_ := Aside0.mk ((by rw [hg]; exact (below_size (hbA HB)) : w.heap.size ≤ gb337))
    have n8_ := Aside0.mk ((by rw [hg]; exact (below_size (hbA HB)) : w.heap.size ≤ gb337))
    have n9_ := Aside0.mk ((by rw [hg]; exact Nat.ne_of_lt (blk_lt (g := gb323) (o := .cells #[.slice Ao32 t316.length co32, .slice Ao34 t319.length co34] 50 (0, 0)) (bkA BK323.out)) : gb323 ≠ gb337))
    have n10_ := Aside0.mk ((by rw [hg]; exact Nat.ne_of_gt (blk_lt (g := gb323) (o := .cells #[.slice Ao32 t316.length co32, .slice Ao34 t319.length co34] 50 (0, 0)) (bkA BK323.out)) : gb337 ≠ gb323))
    clear HO315
    clear HO318
    clear HO321
    clear HO326
    clear BK323
    clear HB
    have HO315 := n0_
    have HO318 := n1_
    have HO321 := n2_
    have HO326 := n3_
    have BK323 := n4_
    have HB := n5_
    have BK337 := n6_
    have GW337 := n7_
    have GE337 := n8_
    have NB323_337 := n9_
    have NB337_323 := n10_
    clear n0_ n1_ n2_ n3_ n4_ n5_ n6_ n7_ n8_ n9_ n10_
    clear hb hbox hg
    obtain ⟨Ao40, co40, eo40⟩ := Kd.R_slice HO326.out
    (first | subst eo40 | (injection eo40 with f1_ f2_ f3_; have f4_ := f1_.symm; have f5_ := f3_.symm; clear f1_ f2_ f3_; subst f4_; subst f5_))
    refine hK.out _ _ ⟨(blk_cell BK323.out 0).trans rfl, (blk_cell BK323.out 1).trans rfl⟩ (fun hHeld => ?_)
    clear hK K
    refine norm_ (a' := ?_) ?_ ?_
    rotate_left
    ·
     show Act.put _ (some 6) _ = _
     simp only [Act.put, List.setIfInBounds_toArray, List.set_cons_zero, List.set_cons_succ, i64_w, i32_w]
     rfl
    refine one_ (i := 2) (N := some 22) #[true, true, true, false, false, false, false, true, false, false] rfl rfl (one_of HT_.out (by kernel_rfl)) (by decide) (fun K hK => ?_)
    refine goes_ Try.func31 (by kernel_rfl) rfl #[.slice Ao40 y324.length co40] (by rfl) rfl rfl mtA ?_
    with_reducible refine (impl_LeafHash.calls k _ _ y324 t327 _ ?side1 ?side2 A5.out).mono ?_
    (case side1 => repeat (first | exact (Kd.R_reads' HO326.out).2.2 | (with_reducible refine Kd.C_alloc ?_ _) | (with_reducible refine Kd.C_drewN ?_ _) | (with_reducible refine Kd.C_drew ?_)))
    (case side2 => exact (Kd.R_reads' HO326.out).2.1)
    rintro e w41 ⟨v328, rfl, ho0, hb⟩
    refine ⟨_, rfl, ?_⟩
    have n0_ := Aside0.mk (Kd.N_elder' (by (with_reducible repeat (first | apply Kd.N_alloc | apply Kd.N_drewN | apply Kd.N_drew)); exact HO315.out) (Kd.R_base ho0) hb)
    have n1_ := Aside0.mk (Kd.R_below (rA HO318.out) hb)
    have n2_ := Aside0.mk (Kd.N_elder' (by (with_reducible repeat (first | apply Kd.N_alloc | apply Kd.N_drewN | apply Kd.N_drew)); exact HO321.out) (Kd.R_base ho0) hb)
    have n3_ := Aside0.mk (Kd.R_elder' (rA HO326.out) (Kd.R_base ho0) hb)
    have n4_ := Aside0.mk (Kd.R_lower (Kd.R_new' ho0 (Kd.R_lt (rA HO326.out))) (below_size (hbA HB)))
    have n5_ := Aside0.mk (blk_below (g := gb323) (o := .cells #[.slice Ao32 t316.length co32, .slice Ao34 t319.length co34] 50 (0, 0)) (bkA BK323.out) hb)
    have n6_ := Aside0.mk (blk_below (g := gb337) (o := .cells #[.slice none 0 0, .slice none 0 0] 50 (0, 0)) (bkA BK337.out) hb)
    have n7_ := Aside0.mk (below_step (hbA HB) hb)
    clear HO315
    clear HO318
    clear HO321
    clear HO326
    clear BK323
    clear BK337
    clear HB
    have HO315 := n0_
    have HO318 := n1_
    have HO321 := n2_
    have HO326 := n3_
    have HO329 := n4_
    have BK323 := n5_
    have BK337 := n6_
    have HB := n7_
    clear n0_ n1_ n2_ n3_ n4_ n5_ n6_ n7_
    (try clear hb)
    (try clear hb2)
    (try clear hk)
    (try clear hi)
    (try clear ho0)
    obtain ⟨Ao42, co42, eo42⟩ := Kd.R_slice HO329.out
    (first | subst eo42 | (injection eo42 with f1_ f2_ f3_; have f4_ := f1_.symm; have f5_ := f3_.symm; clear f1_ f2_ f3_; subst f4_; subst f5_))
    refine hK.out _ _ ⟨(blk_cell BK323.out 0).trans rfl, (blk_cell BK323.out 1).trans rfl⟩ (fun hHeld => ?_)
    clear hK K
    refine norm_ (a' := ?_) ?_ ?_
    rotate_left
    ·
     show Act.put _ (some 22) _ = _
     simp only [Act.put, List.setIfInBounds_toArray, List.set_cons_zero, List.set_cons_succ, i64_w, i32_w]
     rfl
    refine one_ (i := 3) (N := some 23) #[true, true, true, true, false, false, false, true, false, false] rfl rfl (one_of HT_.out (by kernel_rfl)) (by decide) (fun K hK => ?_)
    refine goes_ Try.func53 (by kernel_rfl) rfl #[.agg #[.slice Ao32 t316.length co32, .slice Ao34 t319.length co34], .slice Ao42 t327.length co42] (by rfl) rfl rfl mtA ?_
    with_reducible refine (impl_StackPush.calls k _ _ t316 _ _ t319 _ _ t327 t330 t333 true _ ?side1 ?side2 ?side3 ?side4 ?side5 ?side6 A6.out).mono ?_
    (case side1 => repeat (first | exact (Kd.R_reads' HO318.out).2.2 | (with_reducible refine Kd.C_alloc ?_ _) | (with_reducible refine Kd.C_drewN ?_ _) | (with_reducible refine Kd.C_drew ?_)))
    (case side2 => exact (Kd.R_reads' HO318.out).2.1)
    (case side3 => repeat (first | exact (Kd.N_reads' HO321.out).2.2 | (with_reducible refine Kd.C_alloc ?_ _) | (with_reducible refine Kd.C_drewN ?_ _) | (with_reducible refine Kd.C_drew ?_)))
    (case side4 => exact (Kd.N_reads' HO321.out).2.1)
    (case side5 => repeat (first | exact (Kd.R_reads' HO329.out).2.2 | (with_reducible refine Kd.C_alloc ?_ _) | (with_reducible refine Kd.C_drewN ?_ _) | (with_reducible refine Kd.C_drew ?_)))
    (case side6 => exact (Kd.R_reads' HO329.out).2.1)
    rintro e w43 ⟨v331, v334, rfl, ho0, ho1, hb⟩
    refine ⟨_, rfl, ?_⟩
    have n0_ := Aside0.mk (Kd.N_mono (Kd.N_told (Kd.N_told (Kd.N_old (by (with_reducible repeat (first | apply Kd.N_alloc | apply Kd.N_drewN | apply Kd.N_drew)); exact HO315.out) hb) (Kd.R_base ho0)) (Kd.S_base ho1)) (fun _ h_ => h_.1))
    have n1_ := Aside0.mk (Kd.R_elder' (rA HO318.out) (Kd.R_base ho0) hb)
    have n2_ := Aside0.mk (Kd.N_mono (Kd.N_told (Kd.N_told (Kd.N_old (by (with_reducible repeat (first | apply Kd.N_alloc | apply Kd.N_drewN | apply Kd.N_drew)); exact HO321.out) hb) (Kd.R_base ho0)) (Kd.S_base ho1)) (fun _ h_ => h_.1))
    have n3_ := Aside0.mk (Kd.R_below (rA HO326.out) hb)
    have n4_ := Aside0.mk (Kd.R_below (rA HO329.out) hb)
    have n5_ := Aside0.mk (Kd.R_lower (Kd.R_new' ho0 (Kd.R_lt (rA HO318.out))) (below_size (hbA HB)))
    have n6_ := Aside0.mk (Kd.N_lower (Kd.N_mono (ok' := fun k_ => some k_ ≠ (v331 : Value).ownBlock ∧ some k_ ≠ (.slice Ao29 t313.length co29 : Value).ownBlock ∧ some k_ ≠ (.slice Ao32 t316.length co32 : Value).ownBlock ∧ some k_ ≠ (.slice Ao34 t319.length co34 : Value).ownBlock ∧ some k_ ≠ (.slice Ao40 y324.length co40 : Value).ownBlock ∧ some k_ ≠ (.slice Ao42 t327.length co42 : Value).ownBlock ∧ k_ ≠ gb323 ∧ k_ ≠ gb337) (Kd.S_N (Kd.S_bound (Kd.S_apart' ho1 (Kd.R_typed ho0) (by decide)))) (fun k_ hk_ => ⟨hk_.1.2, (Kd.fresh' (Kd.N_lt (by (with_reducible repeat (first | apply Kd.N_alloc | apply Kd.N_drewN | apply Kd.N_drew)); exact HO315.out)) k_ hk_.2.1), (Kd.fresh' (Kd.R_lt (rA HO318.out)) k_ hk_.2.1), (Kd.fresh' (Kd.N_lt (by (with_reducible repeat (first | apply Kd.N_alloc | apply Kd.N_drewN | apply Kd.N_drew)); exact HO321.out)) k_ hk_.2.1), (Kd.fresh' (Kd.R_lt (rA HO326.out)) k_ hk_.2.1), (Kd.fresh' (Kd.R_lt (rA HO329.out)) k_ hk_.2.1), (Kd.freshB (g := gb323) (o := .cells #[.slice Ao32 t316.length co32, .slice Ao34 t319.length co34] 50 (0, 0)) (bkA BK323.out) k_ hk_.2.1), (Kd.freshB (g := gb337) (o := .cells #[.slice none 0 0, .slice none 0 0] 50 (0, 0)) (bkA BK337.out) k_ hk_.2.1)⟩)) (below_size (hbA HB)))
    have n7_ := Aside0.mk (blk_below (g := gb323) (o := .cells #[.slice Ao32 t316.length co32, .slice Ao34 t319.length co34] 50 (0, 0)) (bkA BK323.out) hb)
    have n8_ := Aside0.mk (blk_below (g := gb337) (o := .cells #[.slice none 0 0, .slice none 0 0] 50 (0, 0)) (bkA BK337.out) hb)
    have n9_ := Aside0.mk (below_step (hbA HB) hb)
    clear HO315
    clear HO318
    clear HO321
    clear HO326
    clear HO329
    clear BK323
    clear BK337
    clear HB
    have HO315 := n0_
    have HO318 := n1_
    have HO321 := n2_
    have HO326 := n3_
    have HO329 := n4_
    have HO332 := n5_
    have HO335 := n6_
    have BK323 := n7_
    have BK337 := n8_
    have HB := n9_
    clear n0_ n1_ n2_ n3_ n4_ n5_ n6_ n7_ n8_ n9_
    (try clear hb)
    (try clear hb2)
    (try clear hk)
    (try clear hi)
    (try clear ho0)
    (try clear ho1)
    refine hK.out _ _ ⟨(blk_cell BK323.out 0).trans rfl, (blk_cell BK323.out 1).trans rfl⟩ (fun hHeld => ?_)
    clear hK K
    refine norm_ (a' := ?_) ?_ ?_
    rotate_left
    ·
     show Act.put _ (some 23) _ = _
     simp only [Act.put, List.setIfInBounds_toArray, List.set_cons_zero, List.set_cons_succ, i64_w, i32_w]
     rfl
    refine pure_ (i := 4) (N := some 19) (v := ?_) (a' := ?_) #[true, true, true, true, true, false, false, true, false, false] rfl rfl (any_of HT_.out (by kernel_rfl)) (fun _ _ _ h => h) (Or.inl ⟨by rfl, ?_⟩) ?_ ?_
    rotate_left
    ·
     intro w'
     go_simp
     with_reducible rfl
    rotate_left
    ·
     simp only [Act.put, List.setIfInBounds_toArray, List.set_cons_zero, List.set_cons_succ, i64_w, i32_w]
     rfl
    refine pure_ (i := 5) (N := some 24) (v := ?_) (a' := ?_) #[true, true, true, true, true, true, false, true, false, false] rfl rfl (any_of HT_.out (by kernel_rfl)) (fun _ _ _ h => h) (Or.inl ⟨by rfl, ?_⟩) ?_ ?_
    rotate_left
    ·
     intro w'
     go_simp
     with_reducible rfl
    rotate_left
    ·
     simp only [Act.put, List.setIfInBounds_toArray, List.set_cons_zero, List.set_cons_succ, i64_w, i32_w]
     rfl
    refine pure_ (i := 6) (N := some 25) (v := ?_) (a' := ?_) #[true, true, true, true, true, true, true, true, false, false] rfl rfl (any_of HT_.out (by kernel_rfl)) (fun _ _ _ h => h) (Or.inl ⟨by rfl, ?_⟩) ?_ ?_
    rotate_left
    ·
     intro w'
     go_simp
     with_reducible rfl
    rotate_left
    ·
     simp only [Act.put, List.setIfInBounds_toArray, List.set_cons_zero, List.set_cons_succ, i64_w, i32_w]
     rfl
    exact norm_ (by simp only [putAll, Act.put, List.setIfInBounds_toArray, List.set_cons_zero, List.set_cons_succ]) (hCont (.slice Ao40 y324.length co40, .slice Ao42 t327.length co42, v331, v334, gb337) _ ⟨hHeld, (by (with_reducible repeat (first | apply Kd.N_alloc | apply Kd.N_drewN | apply Kd.N_drew)); exact Kd.N_mono HO315.out (fun _ hk => ⟨hk.1.1.1.1.1.1, ⟨hk.1.1.1.1.1.2.1, ⟨hk.1.1.1.1.2, ⟨hk.1.1.2, ⟨hk.1.2, ⟨hk.2, ⟨hk.1.1.1.1.1.2.2, hk.1.1.1.2⟩⟩⟩⟩⟩⟩⟩)), (by (with_reducible repeat (first | apply Kd.R_alloc | apply Kd.R_drewN | apply Kd.R_drew)); exact Kd.R_mono HO318.out (fun _ hk => hk.2)), (by (with_reducible repeat (first | apply Kd.N_alloc | apply Kd.N_drewN | apply Kd.N_drew)); exact Kd.N_mono HO321.out (fun _ hk => ⟨hk.1.1.1.1.1.1, ⟨hk.1.1.1.1.1.2.1, ⟨hk.1.1.1.1.2, ⟨hk.1.1.2, ⟨hk.1.2, ⟨hk.2, ⟨hk.1.1.1.1.1.2.2, hk.1.1.1.2⟩⟩⟩⟩⟩⟩⟩)), (by (with_reducible repeat (first | apply Kd.R_alloc | apply Kd.R_drewN | apply Kd.R_drew)); exact Kd.R_mono HO326.out (fun _ hk => hk.2)), (by (with_reducible repeat (first | apply Kd.R_alloc | apply Kd.R_drewN | apply Kd.R_drew)); exact Kd.R_mono HO329.out (fun _ hk => hk.2)), (by (with_reducible repeat (first | apply Kd.R_alloc | apply Kd.R_drewN | apply Kd.R_drew)); exact Kd.R_mono HO332.out (fun _ hk => hk.2)), (by (with_reducible repeat (first | apply Kd.N_alloc | apply Kd.N_drewN | apply Kd.N_drew)); exact Kd.N_mono HO335.out (fun _ hk => ⟨hk.2.1, ⟨hk.2.2.1, ⟨hk.2.2.2.1, ⟨hk.2.2.2.2.1, ⟨hk.2.2.2.2.2.1, ⟨hk.1, ⟨hk.2.2.2.2.2.2.1, hk.2.2.2.2.2.2.2⟩⟩⟩⟩⟩⟩⟩)), (bkA BK323.out), (bkA BK337.out), GW337.out, GE337.out, NB323_337.out, NB337_323.out, (hbA HB)⟩)
  ·
   skip
   refine box_step ?hg (N := 6) ?hd (cs := #[.slice none 0 0, .slice none 0 0]) (t := 50) ?hr ?_; (case hd => rfl); (case hg => rfl); (case hr => first | (go_simp; done) | (go_simp; rfl))
   intro gb337 hg w37 hbox hb
   have n0_ := Aside0.mk (Kd.N_below (Kd.N_elderB (by (with_reducible repeat (first | apply Kd.N_alloc | apply Kd.N_drewN | apply Kd.N_drew)); exact HO315.out) gb337 (Nat.le_of_eq hg.symm)) hb)
   have n1_ := Aside0.mk (Kd.R_below (rA HO318.out) hb)
   have n2_ := Aside0.mk (Kd.N_below (Kd.N_elderB (by (with_reducible repeat (first | apply Kd.N_alloc | apply Kd.N_drewN | apply Kd.N_drew)); exact HO321.out) gb337 (Nat.le_of_eq hg.symm)) hb)
   have n3_ := Aside0.mk (blk_below (g := gb323) (o := .cells #[.slice Ao32 t316.length co32, .slice Ao34 t319.length co34] 50 (0, 0)) (bkA BK323.out) hb)
   have n4_ := Aside0.mk (below_step (hbA HB) hb)
   have n5_ := Aside0.mk (hbox)
   have n6_ := Aside0.mk ((by rw [hg]; exact (below_size (hbA HB)) : w.heap.size ≤ gb337))
   have n7_ := Aside0.mk ((by rw [hg]; exact (below_size (hbA HB)) : w.heap.size ≤ gb337))
   have n8_ := Aside0.mk ((by rw [hg]; exact Nat.ne_of_lt (blk_lt (g := gb323) (o := .cells #[.slice Ao32 t316.length co32, .slice Ao34 t319.length co34] 50 (0, 0)) (bkA BK323.out)) : gb323 ≠ gb337))
   have n9_ := Aside0.mk ((by rw [hg]; exact Nat.ne_of_gt (blk_lt (g := gb323) (o := .cells #[.slice Ao32 t316.length co32, .slice Ao34 t319.length co34] 50 (0, 0)) (bkA BK323.out)) : gb337 ≠ gb323))
   clear HO315
   clear HO318
   clear HO321
   clear BK323
   clear HB
   have HO315 := n0_
   have HO318 := n1_
   have HO321 := n2_
   have BK323 := n3_
   have HB := n4_
   have BK337 := n5_
   have GW337 := n6_
   have GE337 := n7_
   have NB323_337 := n8_
   have NB337_323 := n9_
   clear n0_ n1_ n2_ n3_ n4_ n5_ n6_ n7_ n8_ n9_
   clear hb hbox hg
   refine hK.out _ _ ⟨(blk_cell BK323.out 0).trans rfl, (blk_cell BK323.out 1).trans rfl⟩ (fun hHeld => ?_)
   clear hK K
   refine norm_ (a' := ?_) ?_ ?_
   rotate_left
   ·
    show Act.put _ (some 6) _ = _
    simp only [Act.put, List.setIfInBounds_toArray, List.set_cons_zero, List.set_cons_succ, i64_w, i32_w]
    rfl
   refine one_ (i := 1) (N := some 21) #[true, true, false, false, false, false, false, true, false, false] rfl rfl (one_of HT_.out (by kernel_rfl)) (by decide) (fun K hK => ?_)
   refine Kd.R_lit_step (Kd.int .u8) _ 5 ?hg (N := 21) ?hd (xs := ([5] : List Int)) (inner := [.int .u8 5]) (ok := fun _ => True) (okp := fun _ => True) ?hr ?hp (fun _ hk => hk) trivial (Below.refl _ _) (Nat.le_refl _) (by simp) ?_; (case hd => rfl); (case hg => rfl); (case hr => first | (go_simp; done) | (go_simp; rfl)); (case hp => exact (Reps.one (show Kd.M (Kd.int .u8) _ _ _ 5 [.int .u8 5] from rfl) (Reps.none _ _)))
   intro v325 w38 ho39 hb hg_ hnew_
   clear hg_ hnew_
   (first | rw [← Ny324.out] at ho39 | (simp only [Int.reduceToNat] at ho39; rw [← Ny324.out] at ho39))
   have n0_ := Aside0.mk (Kd.N_elder' (by (with_reducible repeat (first | apply Kd.N_alloc | apply Kd.N_drewN | apply Kd.N_drew)); exact HO315.out) (Kd.R_base ho39) hb)
   have n1_ := Aside0.mk (Kd.R_below (rA HO318.out) hb)
   have n2_ := Aside0.mk (Kd.N_elder' (by (with_reducible repeat (first | apply Kd.N_alloc | apply Kd.N_drewN | apply Kd.N_drew)); exact HO321.out) (Kd.R_base ho39) hb)
   have n3_ := Aside0.mk (Kd.R_lower ho39 (below_size (hbA HB)))
   have n4_ := Aside0.mk (blk_below (g := gb323) (o := .cells #[.slice Ao32 t316.length co32, .slice Ao34 t319.length co34] 50 (0, 0)) (bkA BK323.out) hb)
   have n5_ := Aside0.mk (blk_below (g := gb337) (o := .cells #[.slice none 0 0, .slice none 0 0] 50 (0, 0)) (bkA BK337.out) hb)
   have n6_ := Aside0.mk (below_step (hbA HB) hb)
   clear HO315
   clear HO318
   clear HO321
   clear BK323
   clear BK337
   clear HB
   have HO315 := n0_
   have HO318 := n1_
   have HO321 := n2_
   have HO326 := n3_
   have BK323 := n4_
   have BK337 := n5_
   have HB := n6_
   clear n0_ n1_ n2_ n3_ n4_ n5_ n6_
   clear hb ho39
   obtain ⟨Ao40, co40, eo40⟩ := Kd.R_slice HO326.out
   (first | subst eo40 | (injection eo40 with f1_ f2_ f3_; have f4_ := f1_.symm; have f5_ := f3_.symm; clear f1_ f2_ f3_; subst f4_; subst f5_))
   refine hK.out _ _ ⟨(blk_cell BK323.out 0).trans rfl, (blk_cell BK323.out 1).trans rfl⟩ (fun hHeld => ?_)
   clear hK K
   refine norm_ (a' := ?_) ?_ ?_
   rotate_left
   ·
    show Act.put _ (some 21) _ = _
    simp only [Act.put, List.setIfInBounds_toArray, List.set_cons_zero, List.set_cons_succ, i64_w, i32_w]
    rfl
   refine one_ (i := 2) (N := some 22) #[true, true, true, false, false, false, false, true, false, false] rfl rfl (one_of HT_.out (by kernel_rfl)) (by decide) (fun K hK => ?_)
   refine goes_ Try.func31 (by kernel_rfl) rfl #[.slice Ao40 y324.length co40] (by rfl) rfl rfl mtA ?_
   with_reducible refine (impl_LeafHash.calls k _ _ y324 t327 _ ?side1 ?side2 A5.out).mono ?_
   (case side1 => repeat (first | exact (Kd.R_reads' HO326.out).2.2 | (with_reducible refine Kd.C_alloc ?_ _) | (with_reducible refine Kd.C_drewN ?_ _) | (with_reducible refine Kd.C_drew ?_)))
   (case side2 => exact (Kd.R_reads' HO326.out).2.1)
   rintro e w41 ⟨v328, rfl, ho0, hb⟩
   refine ⟨_, rfl, ?_⟩
   have n0_ := Aside0.mk (Kd.N_elder' (by (with_reducible repeat (first | apply Kd.N_alloc | apply Kd.N_drewN | apply Kd.N_drew)); exact HO315.out) (Kd.R_base ho0) hb)
   have n1_ := Aside0.mk (Kd.R_below (rA HO318.out) hb)
   have n2_ := Aside0.mk (Kd.N_elder' (by (with_reducible repeat (first | apply Kd.N_alloc | apply Kd.N_drewN | apply Kd.N_drew)); exact HO321.out) (Kd.R_base ho0) hb)
   have n3_ := Aside0.mk (Kd.R_elder' (rA HO326.out) (Kd.R_base ho0) hb)
   have n4_ := Aside0.mk (Kd.R_lower (Kd.R_new' ho0 (Kd.R_lt (rA HO326.out))) (below_size (hbA HB)))
   have n5_ := Aside0.mk (blk_below (g := gb323) (o := .cells #[.slice Ao32 t316.length co32, .slice Ao34 t319.length co34] 50 (0, 0)) (bkA BK323.out) hb)
   have n6_ := Aside0.mk (blk_below (g := gb337) (o := .cells #[.slice none 0 0, .slice none 0 0] 50 (0, 0)) (bkA BK337.out) hb)
   have n7_ := Aside0.mk (below_step (hbA HB) hb)
   clear HO315
   clear HO318
   clear HO321
   clear HO326
   clear BK323
   clear BK337
   clear HB
   have HO315 := n0_
   have HO318 := n1_
   have HO321 := n2_
   have HO326 := n3_
   have HO329 := n4_
   have BK323 := n5_
   have BK337 := n6_
   have HB := n7_
   clear n0_ n1_ n2_ n3_ n4_ n5_ n6_ n7_
   (try clear hb)
   (try clear hb2)
   (try clear hk)
   (try clear hi)
   (try clear ho0)
   obtain ⟨Ao42, co42, eo42⟩ := Kd.R_slice HO329.out
   (first | subst eo42 | (injection eo42 with f1_ f2_ f3_; have f4_ := f1_.symm; have f5_ := f3_.symm; clear f1_ f2_ f3_; subst f4_; subst f5_))
   refine hK.out _ _ ⟨(blk_cell BK323.out 0).trans rfl, (blk_cell BK323.out 1).trans rfl⟩ (fun hHeld => ?_)
   clear hK K
   refine norm_ (a' := ?_) ?_ ?_
   rotate_left
   ·
    show Act.put _ (some 22) _ = _
    simp only [Act.put, List.setIfInBounds_toArray, List.set_cons_zero, List.set_cons_succ, i64_w, i32_w]
    rfl
   refine one_ (i := 3) (N := some 23) #[true, true, true, true, false, false, false, true, false, false] rfl rfl (one_of HT_.out (by kernel_rfl)) (by decide) (fun K hK => ?_)
   refine goes_ Try.func53 (by kernel_rfl) rfl #[.agg #[.slice Ao32 t316.length co32, .slice Ao34 t319.length co34], .slice Ao42 t327.length co42] (by rfl) rfl rfl mtA ?_
   with_reducible refine (impl_StackPush.calls k _ _ t316 _ _ t319 _ _ t327 t330 t333 true _ ?side1 ?side2 ?side3 ?side4 ?side5 ?side6 A6.out).mono ?_
   (case side1 => repeat (first | exact (Kd.R_reads' HO318.out).2.2 | (with_reducible refine Kd.C_alloc ?_ _) | (with_reducible refine Kd.C_drewN ?_ _) | (with_reducible refine Kd.C_drew ?_)))
   (case side2 => exact (Kd.R_reads' HO318.out).2.1)
   (case side3 => repeat (first | exact (Kd.N_reads' HO321.out).2.2 | (with_reducible refine Kd.C_alloc ?_ _) | (with_reducible refine Kd.C_drewN ?_ _) | (with_reducible refine Kd.C_drew ?_)))
   (case side4 => exact (Kd.N_reads' HO321.out).2.1)
   (case side5 => repeat (first | exact (Kd.R_reads' HO329.out).2.2 | (with_reducible refine Kd.C_alloc ?_ _) | (with_reducible refine Kd.C_drewN ?_ _) | (with_reducible refine Kd.C_drew ?_)))
   (case side6 => exact (Kd.R_reads' HO329.out).2.1)
   rintro e w43 ⟨v331, v334, rfl, ho0, ho1, hb⟩
   refine ⟨_, rfl, ?_⟩
   have n0_ := Aside0.mk (Kd.N_mono (Kd.N_told (Kd.N_told (Kd.N_old (by (with_reducible repeat (first | apply Kd.N_alloc | apply Kd.N_drewN | apply Kd.N_drew)); exact HO315.out) hb) (Kd.R_base ho0)) (Kd.S_base ho1)) (fun _ h_ => h_.1))
   have n1_ := Aside0.mk (Kd.R_elder' (rA HO318.out) (Kd.R_base ho0) hb)
   have n2_ := Aside0.mk (Kd.N_mono (Kd.N_told (Kd.N_told (Kd.N_old (by (with_reducible repeat (first | apply Kd.N_alloc | apply Kd.N_drewN | apply Kd.N_drew)); exact HO321.out) hb) (Kd.R_base ho0)) (Kd.S_base ho1)) (fun _ h_ => h_.1))
   have n3_ := Aside0.mk (Kd.R_below (rA HO326.out) hb)
   have n4_ := Aside0.mk (Kd.R_below (rA HO329.out) hb)
   have n5_ := Aside0.mk (Kd.R_lower (Kd.R_new' ho0 (Kd.R_lt (rA HO318.out))) (below_size (hbA HB)))
   have n6_ := Aside0.mk (Kd.N_lower (Kd.N_mono (ok' := fun k_ => some k_ ≠ (v331 : Value).ownBlock ∧ some k_ ≠ (.slice Ao29 t313.length co29 : Value).ownBlock ∧ some k_ ≠ (.slice Ao32 t316.length co32 : Value).ownBlock ∧ some k_ ≠ (.slice Ao34 t319.length co34 : Value).ownBlock ∧ some k_ ≠ (.slice Ao40 y324.length co40 : Value).ownBlock ∧ some k_ ≠ (.slice Ao42 t327.length co42 : Value).ownBlock ∧ k_ ≠ gb323 ∧ k_ ≠ gb337) (Kd.S_N (Kd.S_bound (Kd.S_apart' ho1 (Kd.R_typed ho0) (by decide)))) (fun k_ hk_ => ⟨hk_.1.2, (Kd.fresh' (Kd.N_lt (by (with_reducible repeat (first | apply Kd.N_alloc | apply Kd.N_drewN | apply Kd.N_drew)); exact HO315.out)) k_ hk_.2.1), (Kd.fresh' (Kd.R_lt (rA HO318.out)) k_ hk_.2.1), (Kd.fresh' (Kd.N_lt (by (with_reducible repeat (first | apply Kd.N_alloc | apply Kd.N_drewN | apply Kd.N_drew)); exact HO321.out)) k_ hk_.2.1), (Kd.fresh' (Kd.R_lt (rA HO326.out)) k_ hk_.2.1), (Kd.fresh' (Kd.R_lt (rA HO329.out)) k_ hk_.2.1), (Kd.freshB (g := gb323) (o := .cells #[.slice Ao32 t316.length co32, .slice Ao34 t319.length co34] 50 (0, 0)) (bkA BK323.out) k_ hk_.2.1), (Kd.freshB (g := gb337) (o := .cells #[.slice none 0 0, .slice none 0 0] 50 (0, 0)) (bkA BK337.out) k_ hk_.2.1)⟩)) (below_size (hbA HB)))
   have n7_ := Aside0.mk (blk_below (g := gb323) (o := .cells #[.slice Ao32 t316.length co32, .slice Ao34 t319.length co34] 50 (0, 0)) (bkA BK323.out) hb)
   have n8_ := Aside0.mk (blk_below (g := gb337) (o := .cells #[.slice none 0 0, .slice none 0 0] 50 (0, 0)) (bkA BK337.out) hb)
   have n9_ := Aside0.mk (below_step (hbA HB) hb)
   clear HO315
   clear HO318
   clear HO321
   clear HO326
   clear HO329
   clear BK323
   clear BK337
   clear HB
   have HO315 := n0_
   have HO318 := n1_
   have HO321 := n2_
   have HO326 := n3_
   have HO329 := n4_
   have HO332 := n5_
   have HO335 := n6_
   have BK323 := n7_
   have BK337 := n8_
   have HB := n9_
   clear n0_ n1_ n2_ n3_ n4_ n5_ n6_ n7_ n8_ n9_
   (try clear hb)
   (try clear hb2)
   (try clear hk)
   (try clear hi)
   (try clear ho0)
   (try clear ho1)
   refine hK.out _ _ ⟨(blk_cell BK323.out 0).trans rfl, (blk_cell BK323.out 1).trans rfl⟩ (fun hHeld => ?_)
   clear hK K
   refine norm_ (a' := ?_) ?_ ?_
   rotate_left
   ·
    show Act.put _ (some 23) _ = _
    simp only [Act.put, List.setIfInBounds_toArray, List.set_cons_zero, List.set_cons_succ, i64_w, i32_w]
    rfl
   refine pure_ (i := 4) (N := some 19) (v := ?_) (a' := ?_) #[true, true, true, true, true, false, false, true, false, false] rfl rfl (any_of HT_.out (by kernel_rfl)) (fun _ _ _ h => h) (Or.inl ⟨by rfl, ?_⟩) ?_ ?_
   rotate_left
   ·
    intro w'
    go_simp
    with_reducible rfl
   rotate_left
   ·
    simp only [Act.put, List.setIfInBounds_toArray, List.set_cons_zero, List.set_cons_succ, i64_w, i32_w]
    rfl
   refine pure_ (i := 5) (N := some 24) (v := ?_) (a' := ?_) #[true, true, true, true, true, true, false, true, false, false] rfl rfl (any_of HT_.out (by kernel_rfl)) (fun _ _ _ h => h) (Or.inl ⟨by rfl, ?_⟩) ?_ ?_
   rotate_left
   ·
    intro w'
    go_simp
    with_reducible rfl
   rotate_left
   ·
    simp only [Act.put, List.setIfInBounds_toArray, List.set_cons_zero, List.set_cons_succ, i64_w, i32_w]
    rfl
   refine pure_ (i := 6) (N := some 25) (v := ?_) (a' := ?_) #[true, true, true, true, true, true, true, true, false, false] rfl rfl (any_of HT_.out (by kernel_rfl)) (fun _ _ _ h => h) (Or.inl ⟨by rfl, ?_⟩) ?_ ?_
   rotate_left
   ·
    intro w'
    go_simp
    with_reducible rfl
   rotate_left
   ·
    simp only [Act.put, List.setIfInBounds_toArray, List.set_cons_zero, List.set_cons_succ, i64_w, i32_w]
    rfl
   exact norm_ (by simp only [putAll, Act.put, List.setIfInBounds_toArray, List.set_cons_zero, List.set_cons_succ]) (hCont (.slice Ao40 y324.length co40, .slice Ao42 t327.length co42, v331, v334, gb337) _ ⟨hHeld, (by (with_reducible repeat (first | apply Kd.N_alloc | apply Kd.N_drewN | apply Kd.N_drew)); exact Kd.N_mono HO315.out (fun _ hk => ⟨hk.1.1.1.1.1.1, ⟨hk.1.1.1.1.1.2.1, ⟨hk.1.1.1.2, ⟨hk.1.1.2, ⟨hk.1.2, ⟨hk.2, ⟨hk.1.1.1.1.1.2.2, hk.1.1.1.1.2⟩⟩⟩⟩⟩⟩⟩)), (by (with_reducible repeat (first | apply Kd.R_alloc | apply Kd.R_drewN | apply Kd.R_drew)); exact Kd.R_mono HO318.out (fun _ hk => hk.2)), (by (with_reducible repeat (first | apply Kd.N_alloc | apply Kd.N_drewN | apply Kd.N_drew)); exact Kd.N_mono HO321.out (fun _ hk => ⟨hk.1.1.1.1.1.1, ⟨hk.1.1.1.1.1.2.1, ⟨hk.1.1.1.2, ⟨hk.1.1.2, ⟨hk.1.2, ⟨hk.2, ⟨hk.1.1.1.1.1.2.2, hk.1.1.1.1.2⟩⟩⟩⟩⟩⟩⟩)), (by (with_reducible repeat (first | apply Kd.R_alloc | apply Kd.R_drewN | apply Kd.R_drew)); exact Kd.R_mono HO326.out (fun _ hk => hk.2)), (by (with_reducible repeat (first | apply Kd.R_alloc | apply Kd.R_drewN | apply Kd.R_drew)); exact Kd.R_mono HO329.out (fun _ hk => hk.2)), (by (with_reducible repeat (first | apply Kd.R_alloc | apply Kd.R_drewN | apply Kd.R_drew)); exact Kd.R_mono HO332.out (fun _ hk => hk.2)), (by (with_reducible repeat (first | apply Kd.N_alloc | apply Kd.N_drewN | apply Kd.N_drew)); exact Kd.N_mono HO335.out (fun _ hk => ⟨hk.2.1, ⟨hk.2.2.1, ⟨hk.2.2.2.1, ⟨hk.2.2.2.2.1, ⟨hk.2.2.2.2.2.1, ⟨hk.1, ⟨hk.2.2.2.2.2.2.1, hk.2.2.2.2.2.2.2⟩⟩⟩⟩⟩⟩⟩)), (bkA BK323.out), (bkA BK337.out), GW337.out, GE337.out, NB323_337.out, NB337_323.out, (hbA HB)⟩)
 rintro ⟨v325, v328, v331, v334, gb337⟩ w44 ⟨hS_, h0_, h1_, h2_, h3_, h4_, h5_, h6_, h7_, h8_, h9_, h10_, h11_, h12_, h13_⟩
 have n0_ : Aside0 (Kd.N (Kd.slice 5 (Kd.int .u8)) 23 w44 w.heap.size (fun k_ => some k_ ≠ (.slice Ao32 t316.length co32 : Value).ownBlock ∧ some k_ ≠ (.slice Ao34 t319.length co34 : Value).ownBlock ∧ some k_ ≠ (v325 : Value).ownBlock ∧ some k_ ≠ (v328 : Value).ownBlock ∧ some k_ ≠ (v331 : Value).ownBlock ∧ some k_ ≠ (v334 : Value).ownBlock ∧ k_ ≠ gb323 ∧ k_ ≠ gb337) (.slice Ao29 t313.length co29) t313) := ⟨h0_⟩
 have n1_ : Aside0 (Kd.R (Kd.int .i64) 3 w44 w.heap.size (fun k_ => some k_ ≠ (v331 : Value).ownBlock) (.slice Ao32 t316.length co32) t316) := ⟨h1_⟩
 have n2_ : Aside0 (Kd.N (Kd.slice 5 (Kd.int .u8)) 23 w44 w.heap.size (fun k_ => some k_ ≠ (.slice Ao29 t313.length co29 : Value).ownBlock ∧ some k_ ≠ (.slice Ao32 t316.length co32 : Value).ownBlock ∧ some k_ ≠ (v325 : Value).ownBlock ∧ some k_ ≠ (v328 : Value).ownBlock ∧ some k_ ≠ (v331 : Value).ownBlock ∧ some k_ ≠ (v334 : Value).ownBlock ∧ k_ ≠ gb323 ∧ k_ ≠ gb337) (.slice Ao34 t319.length co34) t319) := ⟨h2_⟩
 have n3_ : Aside0 (Kd.R (Kd.int .u8) 5 w44 w.heap.size (fun k_ => some k_ ≠ (v328 : Value).ownBlock) v325 y324) := ⟨h3_⟩
 have n4_ : Aside0 (Kd.R (Kd.int .u8) 5 w44 w.heap.size (fun k_ => some k_ ≠ (v325 : Value).ownBlock) v328 t327) := ⟨h4_⟩
 have n5_ : Aside0 (Kd.R (Kd.int .i64) 3 w44 w.heap.size (fun k_ => some k_ ≠ (.slice Ao32 t316.length co32 : Value).ownBlock) v331 t330) := ⟨h5_⟩
 have n6_ : Aside0 (Kd.N (Kd.slice 5 (Kd.int .u8)) 23 w44 w.heap.size (fun k_ => some k_ ≠ (.slice Ao29 t313.length co29 : Value).ownBlock ∧ some k_ ≠ (.slice Ao32 t316.length co32 : Value).ownBlock ∧ some k_ ≠ (.slice Ao34 t319.length co34 : Value).ownBlock ∧ some k_ ≠ (v325 : Value).ownBlock ∧ some k_ ≠ (v328 : Value).ownBlock ∧ some k_ ≠ (v331 : Value).ownBlock ∧ k_ ≠ gb323 ∧ k_ ≠ gb337) v334 t333) := ⟨h6_⟩
 have n7_ : Aside0 (w44.heap[gb323]? = some (.cells #[.slice Ao32 t316.length co32, .slice Ao34 t319.length co34] 50 (0, 0))) := ⟨h7_⟩
 have n8_ : Aside0 (w44.heap[gb337]? = some (.cells #[.slice none 0 0, .slice none 0 0] 50 (0, 0))) := ⟨h8_⟩
 have n9_ : Aside0 (w.heap.size ≤ gb337) := ⟨h9_⟩
 have n10_ : Aside0 (w.heap.size ≤ gb337) := ⟨h10_⟩
 have n11_ : Aside0 (gb323 ≠ gb337) := ⟨h11_⟩
 have n12_ : Aside0 (gb337 ≠ gb323) := ⟨h12_⟩
 have n13_ : Aside0 (Below w.heap.size w w44) := ⟨h13_⟩
 clear HO315
 clear HO318
 clear HO321
 clear BK323
 clear HB
 clear h0_ h1_ h2_ h3_ h4_ h5_ h6_ h7_ h8_ h9_ h10_ h11_ h12_ h13_
 have HO315 := n0_
 have HO318 := n1_
 have HO321 := n2_
 have HO326 := n3_
 have HO329 := n4_
 have HO332 := n5_
 have HO335 := n6_
 have BK323 := n7_
 have BK337 := n8_
 have GW337 := n9_
 have GE337 := n10_
 have NB323_337 := n11_
 have NB337_323 := n12_
 have HB := n13_
 clear n0_ n1_ n2_ n3_ n4_ n5_ n6_ n7_ n8_ n9_ n10_ n11_ n12_ n13_
 have hHeld : w44.cell? ⟨gb323, 0, none⟩ = some (.slice Ao32 t316.length co32) ∧ w44.cell? ⟨gb323, 1, none⟩ = some (.slice Ao34 t319.length co34) := hS_
 obtain ⟨Ao45, co45, eo45⟩ := Kd.R_slice HO332.out
 (first | subst eo45 | (injection eo45 with f1_ f2_ f3_; have f4_ := f1_.symm; have f5_ := f3_.symm; clear f1_ f2_ f3_; subst f4_; subst f5_))
 obtain ⟨Ao47, co47, eo47⟩ := Kd.N_slice HO335.out
 (first | subst eo47 | (injection eo47 with f1_ f2_ f3_; have f4_ := f1_.symm; have f5_ := f3_.symm; clear f1_ f2_ f3_; subst f4_; subst f5_))
 refine norm_ (a' := ?_) ?_ ?_
 rotate_left
 ·
  simp only [putAll, Act.put, List.setIfInBounds_toArray, List.set_cons_zero, List.set_cons_succ]
  rfl
 refine one_ (i := 8) (N := none) #[true, true, true, true, true, true, true, true, true, false] rfl rfl (one_of HT_.out (by kernel_rfl)) (by decide) (fun K hK => ?_)
 have hs46 : w44.cell? ⟨gb337, 0, none⟩ = some (.slice none 0 0) := (blk_cell BK337.out 0).trans rfl
 have hfs46 := blk_frozen BK337.out 0
 have hns46_0 := NB323_337.out
 have hms46_0 := NB337_323.out
 have hs48 : w44.cell? ⟨gb337, 1, none⟩ = some (.slice none 0 0) := (blk_cell BK337.out 1).trans rfl
 have hfs48 := blk_frozen BK337.out 1
 have hns48_0 := NB323_337.out
 have hms48_0 := NB337_323.out
 refine skip_ (w1 := ?_) (by rfl) rfl ?_ ?_
 rotate_left
 ·
  go_simp
  rfl
 refine hK.out _ _ ⟨((cell_far (p := ⟨gb337, _, none⟩) NB323_337.out _).trans (((cell_far (p := ⟨gb337, _, none⟩) NB323_337.out _).trans (hHeld.1)))), ((cell_far (p := ⟨gb337, _, none⟩) NB323_337.out _).trans (((cell_far (p := ⟨gb337, _, none⟩) NB323_337.out _).trans (hHeld.2))))⟩ (fun hHeld => ?_)
 clear hK K
 refine pure_ (i := 9) (N := some 7) (v := ?_) (a' := ?_) #[true, true, true, true, true, true, true, true, true, true] rfl rfl (any_of HT_.out (by kernel_rfl)) (fun _ _ _ h => h) (Or.inl ⟨by rfl, ?_⟩) ?_ ?_
 rotate_left
 ·
  intro w'
  go_simp
  with_reducible rfl
 rotate_left
 ·
  simp only [Act.put, List.setIfInBounds_toArray, List.set_cons_zero, List.set_cons_succ, i64_w, i32_w]
  rfl
 refine done_ (done_of HT_.out (by kernel_rfl)) ?_
 have hk : Kept w44 ((w44.setCell ⟨gb337, 0, none⟩ (.slice Ao45 t330.length co45)).setCell ⟨gb337, 1, none⟩ (.slice Ao47 t333.length co47)) (fun k => k = gb337) := Kept.setCell (p := ⟨gb337, 1, none⟩) (Kept.setCell (p := ⟨gb337, 0, none⟩) (Kept.refl w44 (fun k => k = gb337)) (Or.inl rfl) (.slice Ao45 t330.length co45)) (Or.inl rfl) (.slice Ao47 t333.length co47)
 have NL := Aside0.mk (Kd.N_mono (Kd.N_bound (Kd.N_kept HO315.out hk (fun k_ h e => h.2.2.2.2.2.2.2 e))) (fun k_ h => h.2))
 have CL := Aside0.mk (Kd.N_reads' NL.out).2.2
 have LL := Aside0.mk (Kd.N_reads' NL.out).2.1
 have CH := Aside0.mk (Kd.R_reads' (Kd.R_kept (Kd.R_types HO318.out BK337.out (by decide)) hk (fun _ h e => h.2 e))).2.2
 have LH := Aside0.mk (Kd.R_reads' HO318.out).2.1
 have CS := Aside0.mk (Kd.N_reads' (Kd.N_kept HO321.out hk (fun k_ h e => h.2.2.2.2.2.2.2 e))).2.2
 have LS := Aside0.mk (Kd.N_reads' HO321.out).2.1
 have CH2 := Aside0.mk (Kd.R_reads' (Kd.R_kept (Kd.R_types HO332.out BK337.out (by decide)) hk (fun _ h e => h.2 e))).2.2
 have LH2 := Aside0.mk (Kd.R_reads' HO332.out).2.1
 have CS2 := Aside0.mk (Kd.N_reads' (Kd.N_kept HO335.out hk (fun k_ h e => h.2.2.2.2.2.2.2 e))).2.2
 have LS2 := Aside0.mk (Kd.N_reads' HO335.out).2.1
 have BA := Aside0.mk (blk_kept BK323.out hk NB323_337.out)
 have BC := Aside0.mk (blk_put (cs := #[.slice Ao45 t330.length co45, .slice none 0 0]) (blk_put (cs := #[.slice none 0 0, .slice none 0 0]) BK337.out 0 (.slice Ao45 t330.length co45) rfl) 1 (.slice Ao47 t333.length co47) rfl)
 have n_HB := Aside0.mk (below_set (j := 1) (v := .slice Ao47 t333.length co47) (below_set (j := 0) (v := .slice Ao45 t330.length co45) HB.out GE337.out) GE337.out)
 clear hk HO315 HO318 HO321 HO326 HO329 HO332 HO335 BK323 BK337 HB
 have HB := n_HB
 clear n_HB
 generalize ((w44.setCell ⟨gb337, 0, none⟩ (.slice Ao45 t330.length co45)).setCell ⟨gb337, 1, none⟩ (.slice Ao47 t333.length co47)) = wS at NL CL CH CS CH2 CS2 BA BC HB ⊢
 go_wp2_with (first | ((with_reducible refine gate_dst (N := 26) rfl ?_); (refine Kd.N_lit (Kd.slice 5 (Kd.int .u8)) (w0 := wS) wS.heap.size 23 ?hg (N' := 26) ?hd (xs := ([] : List (List Int))) (inner := []) (ok := fun _ => True) (okp := fun _ => True) ?hr ?hp (fun _ _ => trivial) trivial (Below.refl _ _) (Nat.le_refl _) (by simp) ?_; (case hd => rfl); (case hg => rfl); (case hr => first | (go_simp; done) | (go_simp; rfl)); (case hp => exact (Reps.none _ _)); intro v26 wA ho hb hg_ hnew_; clear hg_ hnew_; rw [← Ny338.out] at ho; have N26 := Aside0.mk ho; have H6 := Aside0.mk hb; clear ho hb)) | ((with_reducible refine gate_builtin (b := .append) (xs := #[.tmp 26, .tmp 27]) rfl ?_); (at_builtin; refine Kd.N_append_rows (Kd.slice 5 (Kd.int .u8)) (w0 := wS) wS.heap.size rfl (.tmp 26) (.tmp 27) 38 23 (.slice none 0 0) 24 rfl Try.underlying38 info23 rfl (by decide) (by omega) v26 y338 t313 _ _ _ (fun _ => True) (fun k_ => k_ < wS.heap.size) rfl rfl N26.out (Kd.N_F (Kd.N_below NL.out H6.out)) (fun k_ h => ⟨trivial, fun e => absurd h (Nat.not_lt.2 (Kd.N_base N26.out k_ e.symm))⟩) (fun _ _ => trivial) H6.out (below_size H6.out) (by have := LMc7.out; omega) ?_; intro v28 wB ho hb hg hat; rw [← Ny341.out] at ho; clear N26 H6 hg hat; have N28 := Aside0.mk ho; have H6 := Aside0.mk hb; clear ho hb)) | ((with_reducible refine gate_dst (N := 29) rfl ?_); (refine Kd.R_lit (Kd.int .u8) _ 5 ?hg (N := 29) ?hd (xs := ([5] : List Int)) (inner := [.int .u8 5]) (ok := fun _ => True) (okp := fun _ => True) ?hr ?hp (fun _ hk => hk) trivial (Below.refl _ _) (Nat.le_refl _) (by simp) ?_; (case hd => rfl); (case hg => rfl); (case hr => first | (go_simp; done) | (go_simp; rfl)); (case hp => exact (Reps.one (show Kd.M (Kd.int .u8) _ _ _ 5 [.int .u8 5] from rfl) (Reps.none _ _))); intro v29 wC ho hb hg_ hnew_; clear hg_ hnew_; (first | rw [← Ny344.out] at ho | (simp only [Int.reduceToNat] at ho; rw [← Ny344.out] at ho)); obtain ⟨A29, c29, ev29⟩ := Kd.R_slice ho; subst ev29; have R29 := Aside0.mk (Kd.R_mono (ok' := fun k_ => some k_ ≠ v28.ownBlock) (Kd.R_bound ho) (fun k_ h e => absurd (Kd.N_lt N28.out k_ e.symm) (Nat.not_lt.2 h.2.1))); have n_N := Aside0.mk (Kd.N_below N28.out hb); have n_H := Aside0.mk (below_step H6.out hb); clear N28 H6 ho hb; have N28 := n_N; have H6 := n_H; clear n_N n_H)) | ((with_reducible refine gate_builtin (b := .append) (xs := #[.tmp 28, .tmp 30]) rfl ?_); (at_builtin; refine Kd.N_append (Kd.slice 5 (Kd.int .u8)) (w0 := wS) wS.heap.size rfl (.tmp 28) (.tmp 30) 38 23 (.slice none 0 0) 24 rfl Try.underlying38 info23 rfl (by decide) (by omega) v28 y341 y344 [.slice A29 y344.length c29] (fun _ => True) (fun k_ => some k_ ≠ v28.ownBlock) rfl rfl ?aP (fun _ h => ⟨trivial, h⟩) (fun _ _ => trivial) N28.out H6.out (below_size H6.out) (by have := LMc8.out; omega) ?_; (case aP => exact Kd.FK_slice_mk (Kd.R_reads' R29.out).2.1 (Kd.R_F R29.out)); intro v31 wD ho hb hg hat; rw [← Ny347.out] at ho; obtain ⟨Am, cm, ev31⟩ := Kd.N_slice ho; subst ev31; clear N28 H6 R29 NL hg hat; have CM := Aside0.mk (Kd.N_reads' ho).2.2; have LM := Aside0.mk (Kd.N_reads' ho).2.1; clear ho; have n_CL := Aside0.mk (Kd.C_below CL.out hb); have n_CH := Aside0.mk (Kd.C_below CH.out hb); have n_CS := Aside0.mk (Kd.C_below CS.out hb); have n_CH2 := Aside0.mk (Kd.C_below CH2.out hb); have n_CS2 := Aside0.mk (Kd.C_below CS2.out hb); have n_BA := Aside0.mk (blk_below BA.out hb); have n_BC := Aside0.mk (blk_below BC.out hb); have n_HB := Aside0.mk (below_step HB.out hb); clear CL CH CS CH2 CS2 BA BC HB hb; have CL := n_CL; clear n_CL; have CH := n_CH; clear n_CH; have CS := n_CS; clear n_CS; have CH2 := n_CH2; clear n_CH2; have CS2 := n_CS2; clear n_CS2; have BA := n_BA; clear n_BA; have BC := n_BC; clear n_BC; have HB := n_HB; clear n_HB; (try clear hcA0 hcA1 hfA0 hfA1 hcC0 hcC1 hfC0 hfC1); have hcA0 : wD.cell? ⟨gb323, 0, none⟩ = some (.slice Ao32 t316.length co32) := (blk_cell BA.out 0).trans rfl; have hcA1 : wD.cell? ⟨gb323, 1, none⟩ = some (.slice Ao34 t319.length co34) := (blk_cell BA.out 1).trans rfl; have hfA0 := blk_frozen BA.out 0; have hfA1 := blk_frozen BA.out 1; have hcC0 : wD.cell? ⟨gb337, 0, none⟩ = some (.slice Ao45 t330.length co45) := (blk_cell BC.out 0).trans rfl; have hcC1 : wD.cell? ⟨gb337, 1, none⟩ = some (.slice Ao47 t333.length co47) := (blk_cell BC.out 1).trans rfl; have hfC0 := blk_frozen BC.out 0; have hfC1 := blk_frozen BC.out 1; skip)))
 go_wp2_with (first | (go_at_call 54; ((with_reducible refine (impl_StackOk.calls k Ao32 co32 t316 Ao34 co34 t319 true _ CH.out LH.out CS.out LS.out A11.out).mono ?_); rintro e w54 ⟨rfl, hb⟩; have n_CL := Aside0.mk (Kd.C_below CL.out hb); have n_CH := Aside0.mk (Kd.C_below CH.out hb); have n_CS := Aside0.mk (Kd.C_below CS.out hb); have n_CH2 := Aside0.mk (Kd.C_below CH2.out hb); have n_CS2 := Aside0.mk (Kd.C_below CS2.out hb); have n_CM := Aside0.mk (Kd.C_below CM.out hb); have n_BA := Aside0.mk (blk_below BA.out hb); have n_BC := Aside0.mk (blk_below BC.out hb); have n_HB := Aside0.mk (below_step HB.out hb); clear CL CH CS CH2 CS2 CM BA BC HB hb; have CL := n_CL; clear n_CL; have CH := n_CH; clear n_CH; have CS := n_CS; clear n_CS; have CH2 := n_CH2; clear n_CH2; have CS2 := n_CS2; clear n_CS2; have CM := n_CM; clear n_CM; have BA := n_BA; clear n_BA; have BC := n_BC; clear n_BC; have HB := n_HB; clear n_HB; (try clear hcA0 hcA1 hfA0 hfA1 hcC0 hcC1 hfC0 hfC1); have hcA0 : w54.cell? ⟨gb323, 0, none⟩ = some (.slice Ao32 t316.length co32) := (blk_cell BA.out 0).trans rfl; have hcA1 : w54.cell? ⟨gb323, 1, none⟩ = some (.slice Ao34 t319.length co34) := (blk_cell BA.out 1).trans rfl; have hfA0 := blk_frozen BA.out 0; have hfA1 := blk_frozen BA.out 1; have hcC0 : w54.cell? ⟨gb337, 0, none⟩ = some (.slice Ao45 t330.length co45) := (blk_cell BC.out 0).trans rfl; have hcC1 : w54.cell? ⟨gb337, 1, none⟩ = some (.slice Ao47 t333.length co47) := (blk_cell BC.out 1).trans rfl; have hfC0 := blk_frozen BC.out 0; have hfC1 := blk_frozen BC.out 1; skip)))
 go_wp2_with (first | (go_at_call 55; ((with_reducible refine (impl_StackSize.calls k Ao32 co32 t316 Ao34 co34 t319 t351 _ CH.out LH.out CS.out LS.out A13.out).mono ?_); rintro e w55 ⟨rfl, hb⟩; have n_CL := Aside0.mk (Kd.C_below CL.out hb); have n_CH := Aside0.mk (Kd.C_below CH.out hb); have n_CS := Aside0.mk (Kd.C_below CS.out hb); have n_CH2 := Aside0.mk (Kd.C_below CH2.out hb); have n_CS2 := Aside0.mk (Kd.C_below CS2.out hb); have n_CM := Aside0.mk (Kd.C_below CM.out hb); have n_BA := Aside0.mk (blk_below BA.out hb); have n_BC := Aside0.mk (blk_below BC.out hb); have n_HB := Aside0.mk (below_step HB.out hb); clear CL CH CS CH2 CS2 CM BA BC HB hb; have CL := n_CL; clear n_CL; have CH := n_CH; clear n_CH; have CS := n_CS; clear n_CS; have CH2 := n_CH2; clear n_CH2; have CS2 := n_CS2; clear n_CS2; have CM := n_CM; clear n_CM; have BA := n_BA; clear n_BA; have BC := n_BC; clear n_BC; have HB := n_HB; clear n_HB; (try clear hcA0 hcA1 hfA0 hfA1 hcC0 hcC1 hfC0 hfC1); have hcA0 : w55.cell? ⟨gb323, 0, none⟩ = some (.slice Ao32 t316.length co32) := (blk_cell BA.out 0).trans rfl; have hcA1 : w55.cell? ⟨gb323, 1, none⟩ = some (.slice Ao34 t319.length co34) := (blk_cell BA.out 1).trans rfl; have hfA0 := blk_frozen BA.out 0; have hfA1 := blk_frozen BA.out 1; have hcC0 : w55.cell? ⟨gb337, 0, none⟩ = some (.slice Ao45 t330.length co45) := (blk_cell BC.out 0).trans rfl; have hcC1 : w55.cell? ⟨gb337, 1, none⟩ = some (.slice Ao47 t333.length co47) := (blk_cell BC.out 1).trans rfl; have hfC0 := blk_frozen BC.out 0; have hfC1 := blk_frozen BC.out 1; skip)))
 go_wp2_with (first | (go_at_call 55; ((with_reducible refine (impl_StackSize.calls k Ao45 co45 t330 Ao47 co47 t333 t352 _ CH2.out LH2.out CS2.out LS2.out A15.out).mono ?_); rintro e w56 ⟨rfl, hb⟩; have n_CL := Aside0.mk (Kd.C_below CL.out hb); have n_CH := Aside0.mk (Kd.C_below CH.out hb); have n_CS := Aside0.mk (Kd.C_below CS.out hb); have n_CH2 := Aside0.mk (Kd.C_below CH2.out hb); have n_CS2 := Aside0.mk (Kd.C_below CS2.out hb); have n_CM := Aside0.mk (Kd.C_below CM.out hb); have n_BA := Aside0.mk (blk_below BA.out hb); have n_BC := Aside0.mk (blk_below BC.out hb); have n_HB := Aside0.mk (below_step HB.out hb); clear CL CH CS CH2 CS2 CM BA BC HB hb; have CL := n_CL; clear n_CL; have CH := n_CH; clear n_CH; have CS := n_CS; clear n_CS; have CH2 := n_CH2; clear n_CH2; have CS2 := n_CS2; clear n_CS2; have CM := n_CM; clear n_CM; have BA := n_BA; clear n_BA; have BC := n_BC; clear n_BC; have HB := n_HB; clear n_HB; (try clear hcA0 hcA1 hfA0 hfA1 hcC0 hcC1 hfC0 hfC1); have hcA0 : w56.cell? ⟨gb323, 0, none⟩ = some (.slice Ao32 t316.length co32) := (blk_cell BA.out 0).trans rfl; have hcA1 : w56.cell? ⟨gb323, 1, none⟩ = some (.slice Ao34 t319.length co34) := (blk_cell BA.out 1).trans rfl; have hfA0 := blk_frozen BA.out 0; have hfA1 := blk_frozen BA.out 1; have hcC0 : w56.cell? ⟨gb337, 0, none⟩ = some (.slice Ao45 t330.length co45) := (blk_cell BC.out 0).trans rfl; have hcC1 : w56.cell? ⟨gb337, 1, none⟩ = some (.slice Ao47 t333.length co47) := (blk_cell BC.out 1).trans rfl; have hfC0 := blk_frozen BC.out 0; have hfC1 := blk_frozen BC.out 1; skip)))
 go_wp2_with (first | (go_at_call 56; ((with_reducible refine (impl_StackRoot.calls k Ao32 co32 t316 Ao34 co34 t319 t353 _ CH.out LH.out CS.out LS.out A17.out).mono ?_); rintro e w57 ⟨u, rfl, hR, hb⟩; have n_CL := Aside0.mk (Kd.C_below CL.out hb); have n_CH := Aside0.mk (Kd.C_below CH.out hb); have n_CS := Aside0.mk (Kd.C_below CS.out hb); have n_CH2 := Aside0.mk (Kd.C_below CH2.out hb); have n_CS2 := Aside0.mk (Kd.C_below CS2.out hb); have n_CM := Aside0.mk (Kd.C_below CM.out hb); have n_BA := Aside0.mk (blk_below BA.out hb); have n_BC := Aside0.mk (blk_below BC.out hb); have n_HB := Aside0.mk (below_step HB.out hb); clear CL CH CS CH2 CS2 CM BA BC HB hb; have CL := n_CL; clear n_CL; have CH := n_CH; clear n_CH; have CS := n_CS; clear n_CS; have CH2 := n_CH2; clear n_CH2; have CS2 := n_CS2; clear n_CS2; have CM := n_CM; clear n_CM; have BA := n_BA; clear n_BA; have BC := n_BC; clear n_BC; have HB := n_HB; clear n_HB; obtain ⟨Ap, cp, ev_⟩ := Kd.R_slice hR; subst ev_; have Cp := Aside0.mk (Kd.R_reads' hR).2.2; have Lp := Aside0.mk (Kd.R_reads' hR).2.1; clear hR; (try clear hcA0 hcA1 hfA0 hfA1 hcC0 hcC1 hfC0 hfC1); have hcA0 : w57.cell? ⟨gb323, 0, none⟩ = some (.slice Ao32 t316.length co32) := (blk_cell BA.out 0).trans rfl; have hcA1 : w57.cell? ⟨gb323, 1, none⟩ = some (.slice Ao34 t319.length co34) := (blk_cell BA.out 1).trans rfl; have hfA0 := blk_frozen BA.out 0; have hfA1 := blk_frozen BA.out 1; have hcC0 : w57.cell? ⟨gb337, 0, none⟩ = some (.slice Ao45 t330.length co45) := (blk_cell BC.out 0).trans rfl; have hcC1 : w57.cell? ⟨gb337, 1, none⟩ = some (.slice Ao47 t333.length co47) := (blk_cell BC.out 1).trans rfl; have hfC0 := blk_frozen BC.out 0; have hfC1 := blk_frozen BC.out 1; skip)))
 go_wp2_with (first | (go_at_call 46; ((with_reducible refine (impl_TreeRoot.calls k Ao29 co29 t313 t356 _ CL.out LL.out A18.out).mono ?_); rintro e w58 ⟨u, rfl, hR, hb⟩; have n_CL := Aside0.mk (Kd.C_below CL.out hb); have n_CH := Aside0.mk (Kd.C_below CH.out hb); have n_CS := Aside0.mk (Kd.C_below CS.out hb); have n_CH2 := Aside0.mk (Kd.C_below CH2.out hb); have n_CS2 := Aside0.mk (Kd.C_below CS2.out hb); have n_CM := Aside0.mk (Kd.C_below CM.out hb); have n_Cp := Aside0.mk (Kd.C_below Cp.out hb); have n_BA := Aside0.mk (blk_below BA.out hb); have n_BC := Aside0.mk (blk_below BC.out hb); have n_HB := Aside0.mk (below_step HB.out hb); clear CL CH CS CH2 CS2 CM Cp BA BC HB hb; have CL := n_CL; clear n_CL; have CH := n_CH; clear n_CH; have CS := n_CS; clear n_CS; have CH2 := n_CH2; clear n_CH2; have CS2 := n_CS2; clear n_CS2; have CM := n_CM; clear n_CM; have Cp := n_Cp; clear n_Cp; have BA := n_BA; clear n_BA; have BC := n_BC; clear n_BC; have HB := n_HB; clear n_HB; obtain ⟨Aq, cq, ev_⟩ := Kd.R_slice hR; subst ev_; have Cq := Aside0.mk (Kd.R_reads' hR).2.2; have Lq := Aside0.mk (Kd.R_reads' hR).2.1; clear hR; (try clear hcA0 hcA1 hfA0 hfA1 hcC0 hcC1 hfC0 hfC1); have hcA0 : w58.cell? ⟨gb323, 0, none⟩ = some (.slice Ao32 t316.length co32) := (blk_cell BA.out 0).trans rfl; have hcA1 : w58.cell? ⟨gb323, 1, none⟩ = some (.slice Ao34 t319.length co34) := (blk_cell BA.out 1).trans rfl; have hfA0 := blk_frozen BA.out 0; have hfA1 := blk_frozen BA.out 1; have hcC0 : w58.cell? ⟨gb337, 0, none⟩ = some (.slice Ao45 t330.length co45) := (blk_cell BC.out 0).trans rfl; have hcC1 : w58.cell? ⟨gb337, 1, none⟩ = some (.slice Ao47 t333.length co47) := (blk_cell BC.out 1).trans rfl; have hfC0 := blk_frozen BC.out 0; have hfC1 := blk_frozen BC.out 1; skip)))
 go_wp2_with (first | (go_at_call 43; ((with_reducible refine (impl_SameBytes.calls _ _ t353 _ _ t356 true _ Cp.out Lp.out Cq.out Lq.out A19.out).mono ?_); rintro e w59 ⟨rfl, hd⟩; clear Cp Cq Lp Lq; have hb := fs_of_d hd; clear hd; have n_CL := Aside0.mk (Kd.C_below CL.out hb); have n_CH := Aside0.mk (Kd.C_below CH.out hb); have n_CS := Aside0.mk (Kd.C_below CS.out hb); have n_CH2 := Aside0.mk (Kd.C_below CH2.out hb); have n_CS2 := Aside0.mk (Kd.C_below CS2.out hb); have n_CM := Aside0.mk (Kd.C_below CM.out hb); have n_BA := Aside0.mk (blk_below BA.out hb); have n_BC := Aside0.mk (blk_below BC.out hb); have n_HB := Aside0.mk (below_step HB.out hb); clear CL CH CS CH2 CS2 CM BA BC HB hb; have CL := n_CL; clear n_CL; have CH := n_CH; clear n_CH; have CS := n_CS; clear n_CS; have CH2 := n_CH2; clear n_CH2; have CS2 := n_CS2; clear n_CS2; have CM := n_CM; clear n_CM; have BA := n_BA; clear n_BA; have BC := n_BC; clear n_BC; have HB := n_HB; clear n_HB; (try clear hcA0 hcA1 hfA0 hfA1 hcC0 hcC1 hfC0 hfC1); have hcA0 : w59.cell? ⟨gb323, 0, none⟩ = some (.slice Ao32 t316.length co32) := (blk_cell BA.out 0).trans rfl; have hcA1 : w59.cell? ⟨gb323, 1, none⟩ = some (.slice Ao34 t319.length co34) := (blk_cell BA.out 1).trans rfl; have hfA0 := blk_frozen BA.out 0; have hfA1 := blk_frozen BA.out 1; have hcC0 : w59.cell? ⟨gb337, 0, none⟩ = some (.slice Ao45 t330.length co45) := (blk_cell BC.out 0).trans rfl; have hcC1 : w59.cell? ⟨gb337, 1, none⟩ = some (.slice Ao47 t333.length co47) := (blk_cell BC.out 1).trans rfl; have hfC0 := blk_frozen BC.out 0; have hfC1 := blk_frozen BC.out 1; skip)))
 go_wp2_with (first | (go_at_call 56; ((with_reducible refine (impl_StackRoot.calls k Ao45 co45 t330 Ao47 co47 t333 t360 _ CH2.out LH2.out CS2.out LS2.out A21.out).mono ?_); rintro e w60 ⟨u, rfl, hR, hb⟩; have n_CL := Aside0.mk (Kd.C_below CL.out hb); have n_CH := Aside0.mk (Kd.C_below CH.out hb); have n_CS := Aside0.mk (Kd.C_below CS.out hb); have n_CH2 := Aside0.mk (Kd.C_below CH2.out hb); have n_CS2 := Aside0.mk (Kd.C_below CS2.out hb); have n_CM := Aside0.mk (Kd.C_below CM.out hb); have n_BA := Aside0.mk (blk_below BA.out hb); have n_BC := Aside0.mk (blk_below BC.out hb); have n_HB := Aside0.mk (below_step HB.out hb); clear CL CH CS CH2 CS2 CM BA BC HB hb; have CL := n_CL; clear n_CL; have CH := n_CH; clear n_CH; have CS := n_CS; clear n_CS; have CH2 := n_CH2; clear n_CH2; have CS2 := n_CS2; clear n_CS2; have CM := n_CM; clear n_CM; have BA := n_BA; clear n_BA; have BC := n_BC; clear n_BC; have HB := n_HB; clear n_HB; obtain ⟨Ap, cp, ev_⟩ := Kd.R_slice hR; subst ev_; have Cp := Aside0.mk (Kd.R_reads' hR).2.2; have Lp := Aside0.mk (Kd.R_reads' hR).2.1; clear hR; (try clear hcA0 hcA1 hfA0 hfA1 hcC0 hcC1 hfC0 hfC1); have hcA0 : w60.cell? ⟨gb323, 0, none⟩ = some (.slice Ao32 t316.length co32) := (blk_cell BA.out 0).trans rfl; have hcA1 : w60.cell? ⟨gb323, 1, none⟩ = some (.slice Ao34 t319.length co34) := (blk_cell BA.out 1).trans rfl; have hfA0 := blk_frozen BA.out 0; have hfA1 := blk_frozen BA.out 1; have hcC0 : w60.cell? ⟨gb337, 0, none⟩ = some (.slice Ao45 t330.length co45) := (blk_cell BC.out 0).trans rfl; have hcC1 : w60.cell? ⟨gb337, 1, none⟩ = some (.slice Ao47 t333.length co47) := (blk_cell BC.out 1).trans rfl; have hfC0 := blk_frozen BC.out 0; have hfC1 := blk_frozen BC.out 1; skip)))
 go_wp2_with (first | (go_at_call 46; ((with_reducible refine (impl_TreeRoot.calls k _ _ y347 t363 _ CM.out LM.out A22.out).mono ?_); rintro e w61 ⟨u, rfl, hR, hb⟩; have n_CL := Aside0.mk (Kd.C_below CL.out hb); have n_CH := Aside0.mk (Kd.C_below CH.out hb); have n_CS := Aside0.mk (Kd.C_below CS.out hb); have n_CH2 := Aside0.mk (Kd.C_below CH2.out hb); have n_CS2 := Aside0.mk (Kd.C_below CS2.out hb); have n_CM := Aside0.mk (Kd.C_below CM.out hb); have n_Cp := Aside0.mk (Kd.C_below Cp.out hb); have n_BA := Aside0.mk (blk_below BA.out hb); have n_BC := Aside0.mk (blk_below BC.out hb); have n_HB := Aside0.mk (below_step HB.out hb); clear CL CH CS CH2 CS2 CM Cp BA BC HB hb; have CL := n_CL; clear n_CL; have CH := n_CH; clear n_CH; have CS := n_CS; clear n_CS; have CH2 := n_CH2; clear n_CH2; have CS2 := n_CS2; clear n_CS2; have CM := n_CM; clear n_CM; have Cp := n_Cp; clear n_Cp; have BA := n_BA; clear n_BA; have BC := n_BC; clear n_BC; have HB := n_HB; clear n_HB; obtain ⟨Aq, cq, ev_⟩ := Kd.R_slice hR; subst ev_; have Cq := Aside0.mk (Kd.R_reads' hR).2.2; have Lq := Aside0.mk (Kd.R_reads' hR).2.1; clear hR; (try clear hcA0 hcA1 hfA0 hfA1 hcC0 hcC1 hfC0 hfC1); have hcA0 : w61.cell? ⟨gb323, 0, none⟩ = some (.slice Ao32 t316.length co32) := (blk_cell BA.out 0).trans rfl; have hcA1 : w61.cell? ⟨gb323, 1, none⟩ = some (.slice Ao34 t319.length co34) := (blk_cell BA.out 1).trans rfl; have hfA0 := blk_frozen BA.out 0; have hfA1 := blk_frozen BA.out 1; have hcC0 : w61.cell? ⟨gb337, 0, none⟩ = some (.slice Ao45 t330.length co45) := (blk_cell BC.out 0).trans rfl; have hcC1 : w61.cell? ⟨gb337, 1, none⟩ = some (.slice Ao47 t333.length co47) := (blk_cell BC.out 1).trans rfl; have hfC0 := blk_frozen BC.out 0; have hfC1 := blk_frozen BC.out 1; skip)))
 go_wp2_with (first | (go_at_call 43; ((with_reducible refine (impl_SameBytes.calls _ _ t360 _ _ t363 true _ Cp.out Lp.out Cq.out Lq.out A23.out).mono ?_); rintro e w62 ⟨rfl, hd⟩; clear Cp Cq Lp Lq; have hb := fs_of_d hd; clear hd; have n_CL := Aside0.mk (Kd.C_below CL.out hb); have n_CH := Aside0.mk (Kd.C_below CH.out hb); have n_CS := Aside0.mk (Kd.C_below CS.out hb); have n_CH2 := Aside0.mk (Kd.C_below CH2.out hb); have n_CS2 := Aside0.mk (Kd.C_below CS2.out hb); have n_CM := Aside0.mk (Kd.C_below CM.out hb); have n_BA := Aside0.mk (blk_below BA.out hb); have n_BC := Aside0.mk (blk_below BC.out hb); have n_HB := Aside0.mk (below_step HB.out hb); clear CL CH CS CH2 CS2 CM BA BC HB hb; have CL := n_CL; clear n_CL; have CH := n_CH; clear n_CH; have CS := n_CS; clear n_CS; have CH2 := n_CH2; clear n_CH2; have CS2 := n_CS2; clear n_CS2; have CM := n_CM; clear n_CM; have BA := n_BA; clear n_BA; have BC := n_BC; clear n_BC; have HB := n_HB; clear n_HB; (try clear hcA0 hcA1 hfA0 hfA1 hcC0 hcC1 hfC0 hfC1); have hcA0 : w62.cell? ⟨gb323, 0, none⟩ = some (.slice Ao32 t316.length co32) := (blk_cell BA.out 0).trans rfl; have hcA1 : w62.cell? ⟨gb323, 1, none⟩ = some (.slice Ao34 t319.length co34) := (blk_cell BA.out 1).trans rfl; have hfA0 := blk_frozen BA.out 0; have hfA1 := blk_frozen BA.out 1; have hcC0 : w62.cell? ⟨gb337, 0, none⟩ = some (.slice Ao45 t330.length co45) := (blk_cell BC.out 0).trans rfl; have hcC1 : w62.cell? ⟨gb337, 1, none⟩ = some (.slice Ao47 t333.length co47) := (blk_cell BC.out 1).trans rfl; have hfC0 := blk_frozen BC.out 0; have hfC1 := blk_frozen BC.out 1; skip)))
 go_wp2_with (first | (go_at_call 56; ((refine (impl_StackRoot.calls k none 0 [] none 0 [] t367 _ ⟨rfl, Nat.zero_le _, fun hn => absurd hn (Nat.lt_irrefl 0)⟩ (Nat.le_refl _) ⟨rfl, Nat.zero_le _, fun hn => absurd hn (Nat.lt_irrefl 0)⟩ (Nat.le_refl _) A25.out).mono ?_); rintro e w63 ⟨u, rfl, hR, hb⟩; have n_CL := Aside0.mk (Kd.C_below CL.out hb); have n_CH := Aside0.mk (Kd.C_below CH.out hb); have n_CS := Aside0.mk (Kd.C_below CS.out hb); have n_CH2 := Aside0.mk (Kd.C_below CH2.out hb); have n_CS2 := Aside0.mk (Kd.C_below CS2.out hb); have n_CM := Aside0.mk (Kd.C_below CM.out hb); have n_BA := Aside0.mk (blk_below BA.out hb); have n_BC := Aside0.mk (blk_below BC.out hb); have n_HB := Aside0.mk (below_step HB.out hb); clear CL CH CS CH2 CS2 CM BA BC HB hb; have CL := n_CL; clear n_CL; have CH := n_CH; clear n_CH; have CS := n_CS; clear n_CS; have CH2 := n_CH2; clear n_CH2; have CS2 := n_CS2; clear n_CS2; have CM := n_CM; clear n_CM; have BA := n_BA; clear n_BA; have BC := n_BC; clear n_BC; have HB := n_HB; clear n_HB; obtain ⟨Ap, cp, ev_⟩ := Kd.R_slice hR; subst ev_; have Cp := Aside0.mk (Kd.R_reads' hR).2.2; have Lp := Aside0.mk (Kd.R_reads' hR).2.1; clear hR; (try clear hcA0 hcA1 hfA0 hfA1 hcC0 hcC1 hfC0 hfC1); have hcA0 : w63.cell? ⟨gb323, 0, none⟩ = some (.slice Ao32 t316.length co32) := (blk_cell BA.out 0).trans rfl; have hcA1 : w63.cell? ⟨gb323, 1, none⟩ = some (.slice Ao34 t319.length co34) := (blk_cell BA.out 1).trans rfl; have hfA0 := blk_frozen BA.out 0; have hfA1 := blk_frozen BA.out 1; have hcC0 : w63.cell? ⟨gb337, 0, none⟩ = some (.slice Ao45 t330.length co45) := (blk_cell BC.out 0).trans rfl; have hcC1 : w63.cell? ⟨gb337, 1, none⟩ = some (.slice Ao47 t333.length co47) := (blk_cell BC.out 1).trans rfl; have hfC0 := blk_frozen BC.out 0; have hfC1 := blk_frozen BC.out 1; skip)))
 go_wp2_with (first | (go_at_call 46; ((refine (impl_TreeRoot.calls k none 0 [] t370 _ ⟨rfl, Nat.zero_le _, fun hn => absurd hn (Nat.lt_irrefl 0)⟩ (Nat.le_refl _) A26.out).mono ?_); rintro e w64 ⟨u, rfl, hR, hb⟩; have n_CL := Aside0.mk (Kd.C_below CL.out hb); have n_CH := Aside0.mk (Kd.C_below CH.out hb); have n_CS := Aside0.mk (Kd.C_below CS.out hb); have n_CH2 := Aside0.mk (Kd.C_below CH2.out hb); have n_CS2 := Aside0.mk (Kd.C_below CS2.out hb); have n_CM := Aside0.mk (Kd.C_below CM.out hb); have n_Cp := Aside0.mk (Kd.C_below Cp.out hb); have n_BA := Aside0.mk (blk_below BA.out hb); have n_BC := Aside0.mk (blk_below BC.out hb); have n_HB := Aside0.mk (below_step HB.out hb); clear CL CH CS CH2 CS2 CM Cp BA BC HB hb; have CL := n_CL; clear n_CL; have CH := n_CH; clear n_CH; have CS := n_CS; clear n_CS; have CH2 := n_CH2; clear n_CH2; have CS2 := n_CS2; clear n_CS2; have CM := n_CM; clear n_CM; have Cp := n_Cp; clear n_Cp; have BA := n_BA; clear n_BA; have BC := n_BC; clear n_BC; have HB := n_HB; clear n_HB; obtain ⟨Aq, cq, ev_⟩ := Kd.R_slice hR; subst ev_; have Cq := Aside0.mk (Kd.R_reads' hR).2.2; have Lq := Aside0.mk (Kd.R_reads' hR).2.1; clear hR; (try clear hcA0 hcA1 hfA0 hfA1 hcC0 hcC1 hfC0 hfC1); have hcA0 : w64.cell? ⟨gb323, 0, none⟩ = some (.slice Ao32 t316.length co32) := (blk_cell BA.out 0).trans rfl; have hcA1 : w64.cell? ⟨gb323, 1, none⟩ = some (.slice Ao34 t319.length co34) := (blk_cell BA.out 1).trans rfl; have hfA0 := blk_frozen BA.out 0; have hfA1 := blk_frozen BA.out 1; have hcC0 : w64.cell? ⟨gb337, 0, none⟩ = some (.slice Ao45 t330.length co45) := (blk_cell BC.out 0).trans rfl; have hcC1 : w64.cell? ⟨gb337, 1, none⟩ = some (.slice Ao47 t333.length co47) := (blk_cell BC.out 1).trans rfl; have hfC0 := blk_frozen BC.out 0; have hfC1 := blk_frozen BC.out 1; skip)))
 go_wp2_with (first | (go_at_call 43; ((with_reducible refine (impl_SameBytes.calls _ _ t367 _ _ t370 true _ Cp.out Lp.out Cq.out Lq.out A27.out).mono ?_); rintro e w65 ⟨rfl, hd⟩; clear Cp Cq Lp Lq; have hb := fs_of_d hd; clear hd; have n_CL := Aside0.mk (Kd.C_below CL.out hb); have n_CH := Aside0.mk (Kd.C_below CH.out hb); have n_CS := Aside0.mk (Kd.C_below CS.out hb); have n_CH2 := Aside0.mk (Kd.C_below CH2.out hb); have n_CS2 := Aside0.mk (Kd.C_below CS2.out hb); have n_CM := Aside0.mk (Kd.C_below CM.out hb); have n_BA := Aside0.mk (blk_below BA.out hb); have n_BC := Aside0.mk (blk_below BC.out hb); have n_HB := Aside0.mk (below_step HB.out hb); clear CL CH CS CH2 CS2 CM BA BC HB hb; have CL := n_CL; clear n_CL; have CH := n_CH; clear n_CH; have CS := n_CS; clear n_CS; have CH2 := n_CH2; clear n_CH2; have CS2 := n_CS2; clear n_CS2; have CM := n_CM; clear n_CM; have BA := n_BA; clear n_BA; have BC := n_BC; clear n_BC; have HB := n_HB; clear n_HB; (try clear hcA0 hcA1 hfA0 hfA1 hcC0 hcC1 hfC0 hfC1); have hcA0 : w65.cell? ⟨gb323, 0, none⟩ = some (.slice Ao32 t316.length co32) := (blk_cell BA.out 0).trans rfl; have hcA1 : w65.cell? ⟨gb323, 1, none⟩ = some (.slice Ao34 t319.length co34) := (blk_cell BA.out 1).trans rfl; have hfA0 := blk_frozen BA.out 0; have hfA1 := blk_frozen BA.out 1; have hcC0 : w65.cell? ⟨gb337, 0, none⟩ = some (.slice Ao45 t330.length co45) := (blk_cell BC.out 0).trans rfl; have hcC1 : w65.cell? ⟨gb337, 1, none⟩ = some (.slice Ao47 t333.length co47) := (blk_cell BC.out 1).trans rfl; have hfC0 := blk_frozen BC.out 0; have hfC1 := blk_frozen BC.out 1; skip)))
 go_ret
 exact ⟨rfl, HB.out⟩
end Go.Proofs.Ytjfhbmbiegccnaa.QFnStack
