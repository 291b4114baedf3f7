import Derived.Test.YtjfhbmbiegccnaaShaD
namespace Go.Proofs.Ytjfhbmbiegccnaa.ShaBase
open Go.RowKit Go.Proofs.YtjfhbmbiegccnaaW.PrintWords Go.Proofs.YtjfhbmbiegccnaaW.PrintLast Go.Proofs.YtjfhbmbiegccnaaW.PrintMore
set_option linter.unusedVariables false
set_option linter.unusedSimpArgs false
def sb_T37 : Bool × List (List Nat × List Nat) := (true, [([], []), ([], []), ([], []), ([1, 2], [1, 2]), ([3], [3]), ([], []), ([5], [5]), ([6], [6]), ([4, 7], [4, 7]), ([8], [8]), ([9], [9]), ([0, 10], [0, 10]), ([11, 11, 0, 1, 2, 3, 4, 5, 6, 7, 8, 9, 10, 11], [0, 11])])
def sb_B37 : List Nat := [0, 0, 0, 6, 14, 0, 32, 96, 254, 510, 1022, 2047, 4095]
theorem sb_tab37 : rtab .any (opsOf Try.f21 37) = sb_T37 := by kernel_rfl
theorem sb_bits37 : waitsOk sb_T37.2 sb_B37 = true := by kernel_rfl
set_option maxHeartbeats 4000000 in
set_option maxRecDepth 100000 in
theorem sb_good (A0 : Option Addr) (c0 : Nat) (l0 : List Int) (A1 : Option Addr) (c1 : Nat) (l1 : List Int) (w : World) (hr0 : Kd.C (Kd.int .i64) w A0 8 l0) (hr1 : Kd.C (Kd.int .u8) w A1 64 l1)
  (hw : ∀ x ∈ l0, 0 ≤ x ∧ x ≤ 4294967295) (hb : ∀ x ∈ l1, 0 ≤ x ∧ x ≤ 255) :
  Calls Try.prog 21 #[.slice A0 8 c0, .slice A1 64 c1] w fun e w' => ∃ v0_ : Value, e = .returned (v0_) ∧ Kd.R (Kd.int .i64) 3 w' w.heap.size (fun _ => True) v0_ (shaBlock l0 l1) ∧ Below w.heap.size w w' := by
 have HR0 := Aside0.mk hr0
 have HR1 := Aside0.mk hr1
 have HW := Aside0.mk hw
 have HBy := Aside0.mk hb
 have HL0 := Aside0.mk hr0.1
 have HL1 := Aside0.mk hr1.1
 clear hr0 hr1 hw hb
 go_enter Try.func21, Try.ntmps21
 go_wp2
 go_loop [35] (fun u => ∃ i : Nat, i ≤ 8 ∧ u = .int .i64 i) (fun u => 8 - (intOf u).toNat)
 case atStart => exact ⟨0, by omega, rfl⟩
 case round =>
  obtain ⟨i, hi, rfl⟩ := hrel
  by_cases hlt : i < 8
  ·
   obtain ⟨ad, e1, hc1⟩ := Kd.at_int HR0.out (i : Int) (by omega) (by omega)
   cases e1
   rw [Int.toNat_natCast] at hc1
   have hx := HW.out (rd l0 (i : Int)) (by have := HL0.out; rw [rd, Int.toNat_natCast, List.getD_eq_getElem?_getD, List.getElem?_eq_getElem (by omega)]; exact List.getElem_mem _)
   go_wp2_with (go_at_call 73; refine (word_yes _ _ hx.1 hx.2).mono ?_; rintro e w' ⟨rfl, rfl⟩)
   go_round
   case rel => exact ⟨i + 1, by omega, by go_num⟩
   case measure => simp [intOf]; omega
  ·
   obtain rfl : i = 8 := by omega
   go_wp2_with (first | (refine alloc68 rfl (some 7) rfl rfl ?_) | (refine alloc69 rfl (some 9) rfl rfl ?_) | (go_at_call 74; refine (impl_rounds.calls _ _ rfl).mono ?_; rintro e w1 ⟨vk, rfl, hk, hb1⟩; have A1_ := AInv.start hb1; have B1_ := below_alloc (below_alloc hb1 (.cells (zeros 64) 68)) (.cells (zeros 8) 69); have K1_ : Kd.R (Kd.int .i64) 3 _ w.heap.size (fun _ => True) vk rK := Kd.R_alloc (Kd.R_alloc hk (.cells (zeros 64) 68)) (.cells (zeros 8) 69); have AI := Aside0.mk A1_; have HB := Aside0.mk B1_; have HK := Aside0.mk K1_; clear A1_ B1_ K1_ hk hb1) | (refine wpList_store_rowTo rfl 68 (.tmp 7) (.tmp 43) rfl rfl w1.heap.size (zeros 64) rfl (by kernel_rfl) 68 (zeros 64) (by rw [AI.out.hw, zeros_nums]) (by rw [zeros_size]; exact size68) rfl one64 ?_; rw [setRow_self _ _ _ _ _ (by rw [AI.out.hw, ← zeros_nums])]) | (refine wpList_store_rowTo rfl 69 (.tmp 9) (.tmp 45) rfl rfl (w1.heap.size + 1) (zeros 8) rfl (by kernel_rfl) 69 (zeros 8) (by rw [AI.out.hv, zeros_nums]) (by rw [zeros_size]; exact size69) rfl one8 ?_; rw [setRow_self _ _ _ _ _ (by rw [AI.out.hv, ← zeros_nums])]))
   generalize (w1.alloc (.cells (zeros 64) 68)).alloc (.cells (zeros 8) 69) = W0 at AI HB HK ⊢
   generalize w1.heap.size = gw at AI ⊢
   obtain ⟨bk, ck, ek, _⟩ := Kd.R_form HK.out (by decide)
   rw [show rK.length = 64 from by decide] at ek
   subst ek
   generalize Value.agg #[Value.int IntKind.i64 0, Value.int IntKind.i64 0, Value.int IntKind.i64 0, Value.int IntKind.i64 0, Value.int IntKind.i64 0, Value.int IntKind.i64 0, Value.int IntKind.i64 0, Value.int IntKind.i64 0, Value.int IntKind.i64 0, Value.int IntKind.i64 0, Value.int IntKind.i64 0, Value.int IntKind.i64 0, Value.int IntKind.i64 0, Value.int IntKind.i64 0, Value.int IntKind.i64 0, Value.int IntKind.i64 0, Value.int IntKind.i64 0, Value.int IntKind.i64 0, Value.int IntKind.i64 0, Value.int IntKind.i64 0, Value.int IntKind.i64 0, Value.int IntKind.i64 0, Value.int IntKind.i64 0, Value.int IntKind.i64 0, Value.int IntKind.i64 0, Value.int IntKind.i64 0, Value.int IntKind.i64 0, Value.int IntKind.i64 0, Value.int IntKind.i64 0, Value.int IntKind.i64 0, Value.int IntKind.i64 0, Value.int IntKind.i64 0, Value.int IntKind.i64 0, Value.int IntKind.i64 0, Value.int IntKind.i64 0, Value.int IntKind.i64 0, Value.int IntKind.i64 0, Value.int IntKind.i64 0, Value.int IntKind.i64 0, Value.int IntKind.i64 0, Value.int IntKind.i64 0, Value.int IntKind.i64 0, Value.int IntKind.i64 0, Value.int IntKind.i64 0, Value.int IntKind.i64 0, Value.int IntKind.i64 0, Value.int IntKind.i64 0, Value.int IntKind.i64 0, Value.int IntKind.i64 0, Value.int IntKind.i64 0, Value.int IntKind.i64 0, Value.int IntKind.i64 0, Value.int IntKind.i64 0, Value.int IntKind.i64 0, Value.int IntKind.i64 0, Value.int IntKind.i64 0, Value.int IntKind.i64 0, Value.int IntKind.i64 0, Value.int IntKind.i64 0, Value.int IntKind.i64 0, Value.int IntKind.i64 0, Value.int IntKind.i64 0, Value.int IntKind.i64 0, Value.int IntKind.i64 0] = q43
   generalize Value.agg #[Value.int IntKind.i64 0, Value.int IntKind.i64 0, Value.int IntKind.i64 0, Value.int IntKind.i64 0, Value.int IntKind.i64 0, Value.int IntKind.i64 0, Value.int IntKind.i64 0, Value.int IntKind.i64 0] = q45
   go_loopg [46] 16 (fun kq v46 w' => ∃ i : Nat, Aside0 (i + kq = 16) ∧ v46 = .int .i64 (i : Int) ∧ Aside0 (AInv w w' gw (gw + 1) (bw l1 i) (List.replicate 8 0)) ∧ Aside0 (Below w.heap.size w w') ∧ Aside0 (Kd.R (Kd.int .i64) 3 w' w.heap.size (fun _ => True) (.slice (some ⟨bk, 0, none⟩) 64 ck) rK))
   case atStart => exact ⟨0, ⟨rfl⟩, rfl, ⟨AI.out⟩, HB, ⟨HK.out⟩⟩
   case round =>
    clear AI HB HK
    obtain ⟨i, HI, rfl, AI, HB, HK⟩ := hrel
    by_cases hlt : i < 16
    ·
     have hd : decide ((i : Int) < 16) = true := decide_eq_true (by omega)
     go_wp2
     obtain ⟨j0, hj0⟩ : ∃ j : Nat, j = 4 * i := ⟨_, rfl⟩
     obtain ⟨j1, hj1⟩ : ∃ j : Nat, j = 4 * i + 1 := ⟨_, rfl⟩
     obtain ⟨j2, hj2⟩ : ∃ j : Nat, j = 4 * i + 2 := ⟨_, rfl⟩
     obtain ⟨j3, hj3⟩ : ∃ j : Nat, j = 4 * i + 3 := ⟨_, rfl⟩
     obtain ⟨ad, e0, x0⟩ := Kd.at_int HR1.out (j0 : Int) (by omega) (by omega)
     obtain ⟨ad1, e1, x1⟩ := Kd.at_int HR1.out (j1 : Int) (by omega) (by omega)
     obtain ⟨ad2, e2, x2⟩ := Kd.at_int HR1.out (j2 : Int) (by omega) (by omega)
     obtain ⟨ad3, e3, x3⟩ := Kd.at_int HR1.out (j3 : Int) (by omega) (by omega)
     subst e0
     obtain rfl := Option.some.inj e1
     obtain rfl := Option.some.inj e2
     obtain rfl := Option.some.inj e3
     replace x0 := (HB.out.cell (World.block_lt_of_cell? w _ x0)).trans x0
     replace x1 := (HB.out.cell (World.block_lt_of_cell? w _ x1)).trans x1
     replace x2 := (HB.out.cell (World.block_lt_of_cell? w _ x2)).trans x2
     replace x3 := (HB.out.cell (World.block_lt_of_cell? w _ x3)).trans x3
     rw [Int.toNat_natCast] at x0 x1 x2 x3
     have m0 : IntKind.i64.wrap (4 * (i : Int)) = (j0 : Int) := by rw [i64_w]; unfold wrap64; omega
     have m1 : IntKind.i64.wrap ((j0 : Int) + 1) = (j1 : Int) := by rw [i64_w]; unfold wrap64; omega
     have m2 : IntKind.i64.wrap ((j0 : Int) + 2) = (j2 : Int) := by rw [i64_w]; unfold wrap64; omega
     have m3 : IntKind.i64.wrap ((j0 : Int) + 3) = (j3 : Int) := by rw [i64_w]; unfold wrap64; omega
     have p0 : ((j0 : Int) < 64) = True := eq_true (by omega)
     have p1 : ((j1 : Int) < 64) = True := eq_true (by omega)
     have p2 : ((j2 : Int) < 64) = True := eq_true (by omega)
     have p3 : ((j3 : Int) < 64) = True := eq_true (by omega)
     have p4 : (j0 < 64) = True := eq_true (by omega)
     have p5 : (j1 < 64) = True := eq_true (by omega)
     have p6 : (j2 < 64) = True := eq_true (by omega)
     have p7 : (j3 < 64) = True := eq_true (by omega)
     have p8 : (i < 64) = True := eq_true (by omega)
     have p9 : ((i : Int) < 64) = True := eq_true (by omega)
     have HJ0 := Aside0.mk hj0
     have HJ1 := Aside0.mk hj1
     have HJ2 := Aside0.mk hj2
     have HJ3 := Aside0.mk hj3
     clear hj0 hj1 hj2 hj3 hd
     go_still_tail 34, (by kernel_rfl)
     change wpList _ _ _ _ _ wr.drew
     have AI' := Aside0.mk (AI.out.of_heap (W' := wr.drew) rfl)
     have HB' := Aside0.mk (below_drew1 HB.out)
     have HK' := Aside0.mk (Kd.R_drew HK.out)
     clear AI HB HK x0 x1 x2 x3
     generalize wr.drew = w2 at AI' HB' HK' ⊢
     have cw := AI'.out.cell_w i (by omega)
     have fw : w2.frozen? ⟨gw, i, none⟩ = false := by
      have := AI'.out.hw
      simp [World.frozen?, this]
     go_wp2
     go_roundg (gk - 1)
     case measure => have := HI.out; omega
     case rel =>
      refine ⟨i + 1, ⟨by have := HI.out; omega⟩, by go_num, ⟨?_⟩, ⟨below_set HB'.out AI'.out.lw⟩, ⟨?_⟩⟩
      ·
       have q := AI'.out.set_w i (word l1 i)
       rw [bw_set l1 i (by omega)] at q
       rw [HJ0.out, HJ1.out, HJ2.out, HJ3.out]
       exact q
      ·
       exact Kd.R_set HK'.out AI'.out.hw (by decide) _ _
    ·
     obtain rfl : i = 16 := by have := HI.out; omega
     have A1_ := AI.out
     rw [cw_zero] at A1_
     clear AI
     have AI := Aside0.mk A1_
     clear A1_ HI hlt
     go_wp2
     go_loopg [11] 48 (fun kq v11 w' => ∃ n i : Nat, Aside0 (n + kq = 48 ∧ i = 16 + n) ∧ v11 = .int .i64 (i : Int) ∧ Aside0 (AInv w w' gw (gw + 1) (cw l1 n) (List.replicate 8 0)) ∧ Aside0 (Below w.heap.size w w') ∧ Aside0 (Kd.R (Kd.int .i64) 3 w' w.heap.size (fun _ => True) (.slice (some ⟨bk, 0, none⟩) 64 ck) rK))
     case atStart => exact ⟨0, 16, ⟨rfl, rfl⟩, rfl, AI, HB, HK⟩
     case round =>
      clear AI HB HK
      obtain ⟨n, i, HN, rfl, AI, HB, HK⟩ := hrel
      by_cases hlt : i < 64
      ·
       have hd : decide ((i : Int) < 64) = true := decide_eq_true (by omega)
       go_wp2
       have hlen := sched_length l1 n
       obtain ⟨j15, hj15⟩ : ∃ j : Nat, j = i - 15 := ⟨_, rfl⟩
       obtain ⟨j2, hj2⟩ : ∃ j : Nat, j = i - 2 := ⟨_, rfl⟩
       have hN := HN.out
       have x15 := AI.out.cell_w j15 (by omega)
       have x2 := AI.out.cell_w j2 (by omega)
       rw [cw_rd _ _ _ (by omega)] at x15 x2
       obtain ⟨X, hX⟩ : ∃ X, X = rd (sched l1 n) (j15 : Int) := ⟨_, rfl⟩
       obtain ⟨Y, hY⟩ : ∃ Y, Y = rd (sched l1 n) (j2 : Int) := ⟨_, rfl⟩
       rw [← hX] at x15
       rw [← hY] at x2
       have WX : Wd X := by rw [hX]; exact rd_mem _ (sched_wd l1 HBy.out n) ⟨by decide, by decide⟩ _
       have WY : Wd Y := by rw [hY]; exact rd_mem _ (sched_wd l1 HBy.out n) ⟨by decide, by decide⟩ _
       have m15 : IntKind.i64.wrap ((i : Int) - 15) = (j15 : Int) := by rw [i64_w]; unfold wrap64; omega
       have m2 : IntKind.i64.wrap ((i : Int) - 2) = (j2 : Int) := by rw [i64_w]; unfold wrap64; omega
       have p0 : ((j15 : Int) < 64) = True := eq_true (by omega)
       have p1 : (j15 < 64) = True := eq_true (by omega)
       have p2 : ((j2 : Int) < 64) = True := eq_true (by omega)
       have p3 : (j2 < 64) = True := eq_true (by omega)
       have HX := Aside0.mk hX
       have HY := Aside0.mk hY
       have X0_ := Aside0.mk (show 0 ≤ X from WX.1)
       have X1_ := Aside0.mk (show X ≤ 4294967295 from WX.2)
       have Y0_ := Aside0.mk (show 0 ≤ Y from WY.1)
       have Y1_ := Aside0.mk (show Y ≤ 4294967295 from WY.2)
       have HJ15 := Aside0.mk hj15
       have HJ2 := Aside0.mk hj2
       have HLEN := Aside0.mk hlen
       clear hX hY hj15 hj2 hN hlen WX WY hd
       go_still (by kernel_rfl)
       change Exit.then _ _ Exit.normal _ wr.drew
       have AI2 := Aside0.mk (AI.out.of_heap (W' := wr.drew) rfl)
       have HB2 := Aside0.mk (below_drew1 HB.out)
       have HK2 := Aside0.mk (Kd.R_drew HK.out)
       clear AI HB HK x15 x2
       generalize wr.drew = w2 at AI2 HB2 HK2 ⊢
       go_wp2_with (go_at_call 75; refine (turn_ev _ _ _ ?a0 ?a1 ?a2 ?a3).mono ?_; (case a0 => first | with_reducible exact X0_.out | with_reducible exact Y0_.out); (case a1 => first | with_reducible exact X1_.out | with_reducible exact Y1_.out); (case a2 => decide); (case a3 => decide); rintro e w' ⟨rfl, qd, rfl⟩)
       generalize hq : World.drewN w2 _ = w3
       have AI3 : Aside0 (AInv w w3 gw (gw + 1) (cw l1 n) (List.replicate 8 0)) := ⟨by rw [← hq]; exact AI2.out.of_heap rfl⟩
       have HB3 : Aside0 (Below w.heap.size w w3) := ⟨by rw [← hq]; apply pw_below_drewN; exact HB2.out⟩
       have HK3 : Aside0 (Kd.R (Kd.int .i64) 3 w3 w.heap.size (fun _ => True) (.slice (some ⟨bk, 0, none⟩) 64 ck) rK) := ⟨by rw [← hq]; apply Kd.R_drewN; exact HK2.out⟩
       clear hq AI2 HB2 HK2 m15 m2 p0 p1 p2 p3
       have hN := HN.out
       have hlen := HLEN.out
       obtain ⟨j16, hj16⟩ : ∃ j : Nat, j = i - 16 := ⟨_, rfl⟩
       obtain ⟨j7, hj7⟩ : ∃ j : Nat, j = i - 7 := ⟨_, rfl⟩
       have x16 := AI3.out.cell_w j16 (by omega)
       have x7 := AI3.out.cell_w j7 (by omega)
       rw [cw_rd _ _ _ (by omega)] at x16 x7
       have m16 : IntKind.i64.wrap ((i : Int) - 16) = (j16 : Int) := by rw [i64_w]; unfold wrap64; omega
       have m7 : IntKind.i64.wrap ((i : Int) - 7) = (j7 : Int) := by rw [i64_w]; unfold wrap64; omega
       have p0 : ((j16 : Int) < 64) = True := eq_true (by omega)
       have p1 : (j16 < 64) = True := eq_true (by omega)
       have p2 : ((j7 : Int) < 64) = True := eq_true (by omega)
       have p3 : (j7 < 64) = True := eq_true (by omega)
       have p4 : ((i : Int) < 64) = True := eq_true (by omega)
       have p5 : (i < 64) = True := eq_true (by omega)
       have HJ16 := Aside0.mk hj16
       have HJ7 := Aside0.mk hj7
       clear hj16 hj7 hN hlen hlt
       go_still_tail 15, (by kernel_rfl)
       change wpList _ _ _ _ _ w3.drew
       have AI' := Aside0.mk (AI3.out.of_heap (W' := w3.drew) rfl)
       have HB' := Aside0.mk (below_drew1 HB3.out)
       have HK' := Aside0.mk (Kd.R_drew HK3.out)
       clear AI3 HB3 HK3 x16 x7
       generalize w3.drew = w4 at AI' HB' HK' ⊢
       have cw := AI'.out.cell_w i (of_eq_true p5)
       have fw : w4.frozen? ⟨gw, i, none⟩ = false := by
        have := AI'.out.hw
        simp [World.frozen?, this]
       go_wp2
       go_roundg (gk - 1)
       case measure => have := HN.out; have := of_eq_true p5; omega
       case rel =>
        have hN := HN.out
        have hlt := of_eq_true p5
        refine ⟨n + 1, i + 1, ⟨by omega⟩, (by congr 1; unfold wrap64; omega), ⟨?_⟩, ⟨below_set HB'.out AI'.out.lw⟩, ⟨?_⟩⟩
        ·
         have q := AI'.out.set_w (16 + n) (nextW (sched l1 n))
         rw [cw_set l1 n (by omega), ← hN.2] at q
         have hlen := HLEN.out
         have e16 : (sched l1 n).length - 16 = j16 := by have := HJ16.out; omega
         have e15 : (sched l1 n).length - 15 = j15 := by have := HJ15.out; omega
         have e7 : (sched l1 n).length - 7 = j7 := by have := HJ7.out; omega
         have e2 : (sched l1 n).length - 2 = j2 := by have := HJ2.out; omega
         unfold nextW at q
         rw [e16, e15, e7, e2, ← HX.out, ← HY.out] at q
         exact q
        ·
         exact Kd.R_set HK'.out AI'.out.hw (by decide) _ _
      ·
       obtain rfl : n = 48 := by have := HN.out; omega
       have hd : decide ((i : Int) < 64) = false := decide_eq_false (by omega)
       clear hlt
       have hl0 := HL0.out
       have cpy : ∀ j v, (nums .i64 l0)[j]? = some v → ∃ ad, A0 = some ad ∧ wr.cell? (ad.add j) = some v := fun j v hv => by
        have hj : j < 8 := by
         have := (List.getElem?_eq_some_iff.1 hv).1
         simpa [nums, hl0] using this
        obtain ⟨ad, e1, x⟩ := Kd.at_int HR0.out (j : Int) (by omega) (by omega)
        replace x := (HB.out.cell (World.block_lt_of_cell? w _ x)).trans x
        rw [Int.toNat_natCast] at x
        refine ⟨ad, e1, x.trans ?_⟩
        rw [← hv]
        simp [nums, rd, show j < l0.length by omega]
       obtain ⟨ad0, e0, _⟩ := Kd.at_int HR0.out ((0 : Nat) : Int) (by omega) (by omega)
       subst e0
       have CP := Aside0.mk (fun j v hv => (by obtain ⟨ad, e1, x⟩ := cpy j v hv; obtain rfl := Option.some.inj e1; exact x : wr.cell? (ad0.add j) = some v))
       have hn8 : (nums .i64 l0).length = 8 := by simp [nums, hl0]
       have HN8 := Aside0.mk hn8
       clear cpy hl0 hn8
       go_wp2_with (refine wpList_copy_own rfl (.tmp 129) (.tmp 130) 22 22 rfl 3 Try.underlying22 (by kernel_rfl) (gw + 1) 0 8 8 ad0 8 c0 rfl rfl (nums .i64 (List.replicate 8 0)).toArray 69 AI.out.hv (nums .i64 l0) (by rw [HN8.out]; rfl) CP.out (by rw [HN8.out]; decide) (fun v hv => by obtain ⟨x, _, rfl⟩ := List.mem_map.1 hv; rfl) ?_)
       have ecp : (nums .i64 l0 ++ List.drop (nums .i64 l0).length (nums .i64 [0, 0, 0, 0, 0, 0, 0, 0])) = nums .i64 l0 := by
        rw [HN8.out]
        simp [nums]
       rw [ecp]
       have AI5 := Aside0.mk (AI.out.set_v l0 HL0.out)
       have HB5 := Aside0.mk (below_setRow HB.out AI.out.lv (nums .i64 l0).toArray)
       have HK5 : Aside0 (Kd.R (Kd.int .i64) 3 (wr.setRow (gw + 1) (nums .i64 l0).toArray) w.heap.size (fun _ => True) (.slice (some ⟨bk, 0, none⟩) 64 ck) rK) := ⟨Kd.R_mono (Kd.R_step (Kd.R_types HK.out AI.out.hv (by decide)) (fun k hk _ => setRow_other _ _ _ _ hk.2)) (fun _ _ => trivial)⟩
       clear AI HB HK CP HN8 ecp
       generalize wr.setRow (gw + 1) (nums .i64 l0).toArray = w5 at AI5 HB5 HK5 ⊢
       go_loopg [132] 64 (fun kq v132 w' => ∃ n : Nat, Aside0 (n + kq = 64) ∧ v132 = .int .i64 (n : Int) ∧ Aside0 (AInv w w' gw (gw + 1) (cw l1 48) (runI l0 l1 n)) ∧ Aside0 (Below w.heap.size w w') ∧ Aside0 (Kd.R (Kd.int .i64) 3 w' w.heap.size (fun _ => True) (.slice (some ⟨bk, 0, none⟩) 64 ck) rK))
       case atStart => exact ⟨0, ⟨rfl⟩, rfl, AI5, HB5, HK5⟩
       case round =>
        clear AI5 HB5 HK5 HN
        obtain ⟨n, HN, rfl, AI, HB, HK⟩ := hrel
        by_cases hlt : n < 64
        ·
         have hd : decide ((n : Int) < 64) = true := decide_eq_true (by omega)
         go_wp2
         obtain ⟨V, hV⟩ : ∃ V, V = runI l0 l1 n := ⟨_, rfl⟩
         have WV := fun i => rd_mem V (P := Wd) (by rw [hV]; exact runI_wd l0 l1 (fun x hx => HW.out x hx) n) ⟨by decide, by decide⟩ i
         have HV := Aside0.mk hV
         have v0a := Aside0.mk (show 0 ≤ rd V 0 from (WV 0).1)
         have v0b := Aside0.mk (show rd V 0 ≤ 4294967295 from (WV 0).2)
         have v4a := Aside0.mk (show 0 ≤ rd V 4 from (WV 4).1)
         have v4b := Aside0.mk (show rd V 4 ≤ 4294967295 from (WV 4).2)
         clear WV hV
         have x0 : wr.cell? ⟨gw + 1, 0, none⟩ = some (.int .i64 (rd V 0)) := by rw [HV.out]; exact AI.out.cell_v 0 (by decide)
         have x1 : wr.cell? ⟨gw + 1, 1, none⟩ = some (.int .i64 (rd V 1)) := by rw [HV.out]; exact AI.out.cell_v 1 (by decide)
         have x2 : wr.cell? ⟨gw + 1, 2, none⟩ = some (.int .i64 (rd V 2)) := by rw [HV.out]; exact AI.out.cell_v 2 (by decide)
         have x3 : wr.cell? ⟨gw + 1, 3, none⟩ = some (.int .i64 (rd V 3)) := by rw [HV.out]; exact AI.out.cell_v 3 (by decide)
         have x4 : wr.cell? ⟨gw + 1, 4, none⟩ = some (.int .i64 (rd V 4)) := by rw [HV.out]; exact AI.out.cell_v 4 (by decide)
         have x5 : wr.cell? ⟨gw + 1, 5, none⟩ = some (.int .i64 (rd V 5)) := by rw [HV.out]; exact AI.out.cell_v 5 (by decide)
         have x6 : wr.cell? ⟨gw + 1, 6, none⟩ = some (.int .i64 (rd V 6)) := by rw [HV.out]; exact AI.out.cell_v 6 (by decide)
         have x7 : wr.cell? ⟨gw + 1, 7, none⟩ = some (.int .i64 (rd V 7)) := by rw [HV.out]; exact AI.out.cell_v 7 (by decide)
         go_still (by kernel_rfl)
         change Exit.then _ _ Exit.normal _ wr.drew
         have AI2 := Aside0.mk (AI.out.of_heap (W' := wr.drew) rfl)
         have HB2 := Aside0.mk (below_drew1 HB.out)
         have HK2 := Aside0.mk (Kd.R_drew HK.out)
         clear AI HB HK x0 x1 x2 x3 x4 x5 x6 x7
         generalize wr.drew = w2 at AI2 HB2 HK2 ⊢
         have x0 : w2.cell? ⟨gw + 1, 0, none⟩ = some (.int .i64 (rd V 0)) := by rw [HV.out]; exact AI2.out.cell_v 0 (by decide)
         have x1 : w2.cell? ⟨gw + 1, 1, none⟩ = some (.int .i64 (rd V 1)) := by rw [HV.out]; exact AI2.out.cell_v 1 (by decide)
         have x2 : w2.cell? ⟨gw + 1, 2, none⟩ = some (.int .i64 (rd V 2)) := by rw [HV.out]; exact AI2.out.cell_v 2 (by decide)
         have x3 : w2.cell? ⟨gw + 1, 3, none⟩ = some (.int .i64 (rd V 3)) := by rw [HV.out]; exact AI2.out.cell_v 3 (by decide)
         have x4 : w2.cell? ⟨gw + 1, 4, none⟩ = some (.int .i64 (rd V 4)) := by rw [HV.out]; exact AI2.out.cell_v 4 (by decide)
         have x5 : w2.cell? ⟨gw + 1, 5, none⟩ = some (.int .i64 (rd V 5)) := by rw [HV.out]; exact AI2.out.cell_v 5 (by decide)
         have x6 : w2.cell? ⟨gw + 1, 6, none⟩ = some (.int .i64 (rd V 6)) := by rw [HV.out]; exact AI2.out.cell_v 6 (by decide)
         have x7 : w2.cell? ⟨gw + 1, 7, none⟩ = some (.int .i64 (rd V 7)) := by rw [HV.out]; exact AI2.out.cell_v 7 (by decide)
         go_wp2
         obtain ⟨adk, ek, xk⟩ := Kd.at_int (Kd.R_reads' HK2.out).2.2 (n : Int) (by omega) (by have e : rK.length = 64 := (by decide); omega)
         obtain rfl := Option.some.inj ek
         rw [Int.toNat_natCast, add_plain] at xk
         clear ek
         have xw := AI2.out.cell_w n (by omega)
         rw [cw_rd _ _ _ (by omega)] at xw
         obtain ⟨KW, hK⟩ : ∃ K, K = rd rK (n : Int) := ⟨_, rfl⟩
         obtain ⟨X, hX⟩ : ∃ X, X = rd (sched l1 48) (n : Int) := ⟨_, rfl⟩
         rw [← hK] at xk
         rw [← hX] at xw
         have HKK := Aside0.mk hK
         have HX := Aside0.mk hX
         have p4 : ((n : Int) < 64) = True := eq_true (by omega)
         have p5 : (n < 64) = True := eq_true (by omega)
         clear hK hX hlt
         go_quiet ((go_at_call 75; exact Calls.quiet_of (turn_ev _ _ _ v4a.out v4b.out (by decide) (by decide))))
         have AI3 := Aside0.mk (AI2.out.of_heap (W' := w2.drewN nq) rfl)
         have HB3 : Aside0 (Below w.heap.size w (w2.drewN nq)) := ⟨by apply pw_below_drewN; exact HB2.out⟩
         have HK3 : Aside0 (Kd.R (Kd.int .i64) 3 (w2.drewN nq) w.heap.size (fun _ => True) (.slice (some ⟨bk, 0, none⟩) 64 ck) rK) := ⟨by apply Kd.R_drewN; exact HK2.out⟩
         clear AI2 HB2 HK2 x0 x1 x2 x3 x4 x5 x6 x7 xk xw
         generalize w2.drewN nq = w3 at AI3 HB3 HK3 ⊢
         have x1 : w3.cell? ⟨gw + 1, 1, none⟩ = some (.int .i64 (rd V 1)) := by rw [HV.out]; exact AI3.out.cell_v 1 (by decide)
         have x2 : w3.cell? ⟨gw + 1, 2, none⟩ = some (.int .i64 (rd V 2)) := by rw [HV.out]; exact AI3.out.cell_v 2 (by decide)
         have x3 : w3.cell? ⟨gw + 1, 3, none⟩ = some (.int .i64 (rd V 3)) := by rw [HV.out]; exact AI3.out.cell_v 3 (by decide)
         have x5 : w3.cell? ⟨gw + 1, 5, none⟩ = some (.int .i64 (rd V 5)) := by rw [HV.out]; exact AI3.out.cell_v 5 (by decide)
         have x6 : w3.cell? ⟨gw + 1, 6, none⟩ = some (.int .i64 (rd V 6)) := by rw [HV.out]; exact AI3.out.cell_v 6 (by decide)
         go_wp2_with (first | (go_at_call 75; refine (turn_ev _ _ _ ?a0 ?a1 ?a2 ?a3).mono ?_; (case a0 => with_reducible exact v0a.out); (case a1 => with_reducible exact v0b.out); (case a2 => decide); (case a3 => decide); rintro e w' ⟨rfl, qd, rfl⟩) | (refine wpList_store_rowTo rfl 69 (.tmp 9) (.tmp 215) rfl rfl (gw + 1) (nums .i64 (stepI V KW X)).toArray rfl rfl 69 _ AI3.out.hv (by rw [show (nums .i64 (stepI V KW X)).toArray.size = 8 from by simp [nums, stepI]]; exact size69) (by simp [nums, AI3.out.ly, stepI]) (nums_one _) ?_))
         generalize hq : World.drewN w3 _ = w4
         have AI4 : Aside0 (AInv w w4 gw (gw + 1) (cw l1 48) (runI l0 l1 n)) := ⟨by rw [← hq]; exact AI3.out.of_heap rfl⟩
         have HB4 : Aside0 (Below w.heap.size w w4) := ⟨by rw [← hq]; apply pw_below_drewN; exact HB3.out⟩
         have HK4 : Aside0 (Kd.R (Kd.int .i64) 3 w4 w.heap.size (fun _ => True) (.slice (some ⟨bk, 0, none⟩) 64 ck) rK) := ⟨by rw [← hq]; apply Kd.R_drewN; exact HK3.out⟩
         clear hq AI3 HB3 HK3 x1 x2 x3 x5 x6
         go_roundg (gk - 1)
         case measure => have := HN.out; have := of_eq_true p5; omega
         case rel =>
          have hN := HN.out
          have hlt := of_eq_true p5
          refine ⟨n + 1, ⟨by omega⟩, (by congr 1; unfold wrap64; omega), ⟨?_⟩, ⟨below_setRow HB4.out AI4.out.lv _⟩, ⟨Kd.R_mono (Kd.R_step (Kd.R_types HK4.out AI4.out.hv (by decide)) (fun k hk _ => setRow_other _ _ _ _ hk.2)) (fun _ _ => trivial)⟩⟩
          have e : runI l0 l1 (n + 1) = stepI V KW X := by rw [HV.out, HKK.out, HX.out]; rfl
          rw [e]
          exact AI4.out.set_v (stepI V KW X) rfl
        ·
         obtain rfl : n = 64 := by have := HN.out; omega
         clear hlt
         go_wp2_with (first | ((with_reducible refine gate_dst (N := 217) rfl ?_); refine Kd.R_lit (Kd.int .i64) (w0 := w) w.heap.size 3 ?hg (N := 217) ?hd (xs := ([] : List Int)) (inner := []) (ok := fun k_ => k_ ≠ gw ∧ k_ ≠ gw + 1) (okp := fun _ => False) ?hr ?hp (fun _ hk => hk.elim) ?hf HB.out ?hs (by simp) ?_; (case hd => rfl); (case hg => rfl); (case hr => first | (go_simp; done) | (go_simp; rfl)); (case hp => exact (Reps.none _ _)); (case hf => exact ne_new AI.out); (case hs => exact HB.out.size); intro v217 wl ho hb hg_ hnew_; have AIl := Aside0.mk (AI.out.grown hg_ (by simp) (by simp)); have HBl := Aside0.mk hb; have HOl := Aside0.mk ho; clear hnew_ hg_ hb ho))
         clear AI HB HK
         go_loopg [23, 218] 8 (fun kq v23 v218 w' => ∃ n : Nat, Aside0 (n + kq = 8) ∧ v218 = .int .i64 (n : Int) ∧ Aside0 (AInv w w' gw (gw + 1) (cw l1 48) (runI l0 l1 64)) ∧ Aside0 (Below w.heap.size w w') ∧ Aside0 (Kd.R (Kd.int .i64) 3 w' w.heap.size (fun k_ => k_ ≠ gw ∧ k_ ≠ gw + 1) v23 (sumI l0 (runI l0 l1 64) n)))
         case atStart => exact ⟨0, ⟨rfl⟩, rfl, AIl, HBl, HOl⟩
         case round =>
          clear AIl HBl HOl HN
          obtain ⟨n, HN, rfl, AI, HB, HO⟩ := hrel
          by_cases hlt : n < 8
          ·
           have hd : decide ((n : Int) < 8) = true := decide_eq_true (by omega)
           go_wp2
           obtain ⟨adh, eh, xh⟩ := Kd.at_int HR0.out (n : Int) (by omega) (by omega)
           obtain rfl := Option.some.inj eh
           replace xh := (HB.out.cell (World.block_lt_of_cell? w _ xh)).trans xh
           rw [Int.toNat_natCast] at xh
           have xv := AI.out.cell_v n (by omega)
           obtain ⟨X, hX⟩ : ∃ X, X = rd l0 (n : Int) := ⟨_, rfl⟩
           obtain ⟨Y, hY⟩ : ∃ Y, Y = rd (runI l0 l1 64) (n : Int) := ⟨_, rfl⟩
           rw [← hX] at xh
           rw [← hY] at xv
           have HX := Aside0.mk hX
           have HY := Aside0.mk hY
           have p4 : ((n : Int) < 8) = True := eq_true (by omega)
           have p5 : (n < 8) = True := eq_true (by omega)
           clear hX hY hlt hd eh
           have AI2 := Aside0.mk (AI.out.of_heap (W' := wr.drew) rfl)
           have HB2 := Aside0.mk (below_drew1 HB.out)
           have HO2 := Aside0.mk (Kd.R_drew HO.out)
           clear AI HB HO
           refine start_ (n := 13) (S := fun w' => w'.cell? (ad0.add n) = some (.int .i64 X) ∧ w'.cell? ⟨gw + 1, n, none⟩ = some (.int .i64 Y)) (ds := [10, 11]) #[false, false, false, false, false, false, false, false, false, false, false, false, false] (by kernel_rfl) rfl rfl ⟨xh, xv⟩ (fun hHeld => ?_); refine with_tabW sb_tab37 sb_bits37 (fun HT_ HW_ => ?_)
           clear xh xv
           generalize wr.drew = w2 at AI2 HB2 HO2 hHeld ⊢
           refine pure_ (i := 0) (N := some 221) (v := ?_) (a' := ?_) #[true, false, false, false, false, false, false, false, false, false, false, false, false] rfl rfl (any_of HT_.out (by kernel_rfl)) (fun _ _ _ h => h) (Or.inl ⟨by rfl, ?_⟩) ?_ ?_
           rotate_left
           ·
            intro w'
            go_simp
            with_reducible rfl
           rotate_left
           ·
            simp only [Act.put, List.setIfInBounds_toArray, List.set_cons_zero, List.set_cons_succ, i64_w, i32_w]
            rfl
           refine pure_ (i := 1) (N := some 222) (v := ?_) (a' := ?_) #[true, true, false, false, false, false, false, false, false, false, false, false, false] rfl rfl (any_of HT_.out (by kernel_rfl)) (fun _ _ _ h => h) (Or.inl ⟨by rfl, ?_⟩) ?_ ?_
           rotate_left
           ·
            intro w'
            go_simp
            with_reducible rfl
           rotate_left
           ·
            simp only [Act.put, List.setIfInBounds_toArray, List.set_cons_zero, List.set_cons_succ, i64_w, i32_w]
            rfl
           refine pure_ (i := 2) (N := some 223) (v := ?_) (a' := ?_) #[true, true, true, false, false, false, false, false, false, false, false, false, false] rfl rfl (any_of HT_.out (by kernel_rfl)) (fun _ _ _ h => h) (Or.inl ⟨by rfl, ?_⟩) ?_ ?_
           rotate_left
           ·
            intro w'
            go_simp
            with_reducible rfl
           rotate_left
           ·
            simp only [Act.put, List.setIfInBounds_toArray, List.set_cons_zero, List.set_cons_succ, i64_w, i32_w]
            rfl
           refine pure_ (i := 3) (N := some 224) (v := ?_) (a' := ?_) #[true, true, true, true, false, false, false, false, false, false, false, false, false] rfl rfl (any_of HT_.out (by kernel_rfl)) (fun _ _ _ h => h) (Or.inl ⟨by rfl, ?_⟩) ?_ ?_
           rotate_left
           ·
            intro w'
            go_simp
            with_reducible rfl
           rotate_left
           ·
            simp only [Act.put, List.setIfInBounds_toArray, List.set_cons_zero, List.set_cons_succ, i64_w, i32_w]
            rfl
           refine pure_ (i := 5) (N := some 226) (v := ?_) (a' := ?_) #[true, true, true, true, false, true, false, false, false, false, false, false, false] rfl rfl (any_of HT_.out (by kernel_rfl)) (fun _ _ _ h => h) (Or.inl ⟨by rfl, ?_⟩) ?_ ?_
           rotate_left
           ·
            intro w'
            go_simp
            with_reducible rfl
           rotate_left
           ·
            simp only [Act.put, List.setIfInBounds_toArray, List.set_cons_zero, List.set_cons_succ, i64_w, i32_w]
            rfl
           refine pure_ (i := 6) (N := some 227) (v := ?_) (a' := ?_) #[true, true, true, true, false, true, true, false, false, false, false, false, false] rfl rfl (any_of HT_.out (by kernel_rfl)) (fun _ _ _ h => h) (Or.inl ⟨by rfl, ?_⟩) ?_ ?_
           rotate_left
           ·
            intro w'
            go_simp
            with_reducible rfl
           rotate_left
           ·
            simp only [Act.put, List.setIfInBounds_toArray, List.set_cons_zero, List.set_cons_succ, i64_w, i32_w]
            rfl
           refine take_ (i := 4) (N := some 225) (v := ?_) (a' := ?_) #[true, true, true, true, true, true, true, false, false, false, false, false, false] rfl rfl (take_ofW HT_.out HW_.out (by kernel_rfl)) (fun _ _ _ h => h) (Or.inl ⟨by rfl, ?_⟩) hHeld ?_ ?_
           rotate_left
           ·
            rintro w' ⟨s0, s1⟩
            go_simp
            with_reducible rfl
           rotate_left
           ·
            simp only [Act.put, List.setIfInBounds_toArray, List.set_cons_zero, List.set_cons_succ, i64_w, i32_w]
            rfl
           refine take_ (i := 7) (N := some 228) (v := ?_) (a' := ?_) #[true, true, true, true, true, true, true, true, false, false, false, false, false] rfl rfl (take_ofW HT_.out HW_.out (by kernel_rfl)) (fun _ _ _ h => h) (Or.inl ⟨by rfl, ?_⟩) hHeld ?_ ?_
           rotate_left
           ·
            rintro w' ⟨s0, s1⟩
            go_simp
            with_reducible rfl
           rotate_left
           ·
            simp only [Act.put, List.setIfInBounds_toArray, List.set_cons_zero, List.set_cons_succ, i64_w, i32_w]
            rfl
           refine pure_ (i := 8) (N := some 229) (v := ?_) (a' := ?_) #[true, true, true, true, true, true, true, true, true, false, false, false, false] rfl rfl (any_of HT_.out (by kernel_rfl)) (fun _ _ _ h => h) (Or.inl ⟨by rfl, ?_⟩) ?_ ?_
           rotate_left
           ·
            intro w'
            go_simp
            with_reducible rfl
           rotate_left
           ·
            simp only [Act.put, List.setIfInBounds_toArray, List.set_cons_zero, List.set_cons_succ, i64_w, i32_w]
            rfl
           refine pure_ (i := 9) (N := some 230) (v := ?_) (a' := ?_) #[true, true, true, true, true, true, true, true, true, true, false, false, false] rfl rfl (any_of HT_.out (by kernel_rfl)) (fun _ _ _ h => h) (Or.inl ⟨by rfl, ?_⟩) ?_ ?_
           rotate_left
           ·
            intro w'
            go_simp
            with_reducible rfl
           rotate_left
           ·
            simp only [Act.put, List.setIfInBounds_toArray, List.set_cons_zero, List.set_cons_succ, i64_w, i32_w]
            rfl
           refine last_ (i := 10) (N := some 231) #[true, true, true, true, true, true, true, true, true, true, true, false, false] rfl rfl (one_of HT_.out (by kernel_rfl)) (by decide) (fun K hK => ?_)
           refine value_ (w1 := ?_) (v := ?_) (by rfl) rfl ?_ ?_
           rotate_left 2
           ·
            go_simp
            constructor
            ·
             rfl
            ·
             rfl
           refine hK.out _ _ ?_
           clear hK K
           refine norm_ (a' := ?_) ?_ ?_
           rotate_left
           ·
            show Act.put _ (some 231) _ = _
            simp only [Act.put, List.setIfInBounds_toArray, List.set_cons_zero, List.set_cons_succ, i64_w, i32_w]
            rfl
           refine last_ (i := 11) (N := some 232) #[true, true, true, true, true, true, true, true, true, true, true, true, false] rfl rfl (one_of HT_.out (by kernel_rfl)) (by decide) (fun K hK => ?_)
           refine Kd.R_append_step (Kd.int .i64) (w0 := w) w.heap.size (by rfl) (.tmp 221) (.tmp 231) 22 3 (.int .i64 0) 8 rfl Try.underlying22 info3 rfl (by decide) (by omega) u23 (sumI l0 (runI l0 l1 64) n) (Go.bits .and .i64 (wrap64 (X + Y)) 4294967295) [.int .i64 (Go.bits .and .i64 (wrap64 (X + Y)) 4294967295)] (fun k_ => k_ ≠ gw ∧ k_ ≠ gw + 1) (fun _ => False) rfl rfl ?aP (fun _ hk => hk.elim) ?aF ?aO ?aB ?aS ?aL ?_
           (case aP => exact rfl)
           (case aF => exact fun k hk => ne_old AI2.out k hk)
           (case aO => exact HO2.out)
           (case aB => exact HB2.out)
           (case aS => exact HB2.out.size)
           (case aL => rw [sumI_length]; have := of_eq_true p5; omega)
           intro v232 w8 ho hb hg_ hat
           have AI3 := Aside0.mk (AI2.out.grown hg_ (fun e => (HO2.out.1 gw e.symm).1 rfl) (fun e => (HO2.out.1 (gw + 1) e.symm).2 rfl))
           have HB3 := Aside0.mk hb
           have HO3 := Aside0.mk ho
           clear ho hb hg_ hat AI2 HB2 HO2
           refine hK.out _ _ ?_
           clear hK K
           refine norm_ (a' := ?_) ?_ ?_
           rotate_left
           ·
            show Act.put _ (some 232) _ = _
            simp only [Act.put, List.setIfInBounds_toArray, List.set_cons_zero, List.set_cons_succ, i64_w, i32_w]
            rfl
           refine pure_ (i := 12) (N := some 23) (v := ?_) (a' := ?_) #[true, true, true, true, true, true, true, true, true, true, true, true, true] rfl rfl (any_of HT_.out (by kernel_rfl)) (fun _ _ _ h => h) (Or.inl ⟨by rfl, ?_⟩) ?_ ?_
           rotate_left
           ·
            intro w'
            go_simp
            with_reducible rfl
           rotate_left
           ·
            simp only [Act.put, List.setIfInBounds_toArray, List.set_cons_zero, List.set_cons_succ, i64_w, i32_w]
            rfl
           refine done_ (done_of HT_.out (by kernel_rfl)) ?_
           try go_wp2
           go_roundg (gk - 1)
           case measure => have := HN.out; have := of_eq_true p5; omega
           case rel =>
            have hN := HN.out
            have hlt := of_eq_true p5
            refine ⟨n + 1, ⟨by omega⟩, (by congr 1; unfold wrap64; omega), AI3, HB3, ⟨?_⟩⟩
            have q := HO3.out
            rw [HX.out, HY.out, ← sumI_succ] at q
            exact q
          ·
           obtain rfl : n = 8 := by have := HN.out; omega
           clear hlt
           go_wp2
           go_ret
           exact ⟨_, rfl, Kd.R_mono HO.out (fun _ _ => trivial), HB.out⟩
end Go.Proofs.Ytjfhbmbiegccnaa.ShaBase
