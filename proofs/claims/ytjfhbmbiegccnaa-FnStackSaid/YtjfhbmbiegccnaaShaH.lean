/- The reference block function, where it takes its arguments: its walk. No conditions but those typed. -/
import Derived.Test.YtjfhbmbiegccnaaShaP
import Derived.Test.YtjfhbmbiegccnaaShaB
namespace Go.Proofs.Ytjfhbmbiegccnaa.ShaBase
open Go.RowKit Go.Proofs.YtjfhbmbiegccnaaW.PrintWords Go.Proofs.YtjfhbmbiegccnaaW.PrintLast Go.Proofs.YtjfhbmbiegccnaaW.PrintMore
set_option linter.unusedVariables false
set_option linter.unusedSimpArgs false
def spec_T13 : Bool × List (List Nat × List Nat) := (true, [([], []), ([], []), ([], []), ([1, 2], [1, 2]), ([3], [3]), ([4], [4]), ([5], [5]), ([], []), ([], []), ([8], [8]), ([7, 9], [7, 9]), ([10], [10]), ([11], [11]), ([12], [12]), ([6, 13], [6, 13]), ([], []), ([], []), ([16], [16]), ([15, 17], [15, 17]), ([18], [18]), ([19], [19]), ([20], [20]), ([14, 21], [14, 21]), ([], []), ([], []), ([24], [24]), ([23, 25], [23, 25]), ([26], [26]), ([27], [27]), ([22, 28], [22, 28]), ([29], [29]), ([0, 30], [0, 30]), ([31, 31, 0, 1, 2, 3, 4, 5, 6, 7, 8, 9, 10, 11, 12, 13, 14, 15, 16, 17, 18, 19, 20, 21, 22, 23, 24, 25, 26, 27, 28, 29, 30, 31], [0, 31])])
def spec_B13 : List Nat := [0, 0, 0, 6, 14, 30, 62, 0, 0, 256, 896, 1920, 3968, 8064, 16382, 0, 0, 65536, 229376, 491520, 1015808, 2064384, 4194302, 0, 0, 16777216, 58720256, 125829120, 260046848, 536870910, 1073741822, 2147483647, 4294967295]
def spec_T21 : Bool × List (List Nat × List Nat) := (true, [([], []), ([], []), ([], []), ([2], [2]), ([1, 3], [1, 3]), ([4], [4]), ([], []), ([5, 6], [5, 6]), ([], []), ([], []), ([9], [9]), ([8, 10], [8, 10]), ([11], [11]), ([7, 12], [7, 12]), ([], []), ([13, 14], [13, 14]), ([15], [15]), ([16], [16]), ([0, 17], [0, 17]), ([18, 18, 0, 1, 2, 3, 4, 5, 6, 7, 8, 9, 10, 11, 12, 13, 14, 15, 16, 17, 18], [0, 1, 8, 18])])
def spec_B21 : List Nat := [0, 0, 0, 4, 14, 30, 0, 126, 0, 0, 512, 1792, 3840, 8190, 0, 32766, 65534, 131070, 262143, 524287]
def spec_T36 : Bool × List (List Nat × List Nat) := (true, [([], []), ([], []), ([], []), ([1, 2], [1, 2]), ([3], [3]), ([], []), ([], []), ([5, 6], [5, 6]), ([7], [7]), ([4, 8], [4, 8]), ([9], [9]), ([10], [10]), ([0, 11], [0, 11]), ([12, 12, 0, 1, 2, 3, 4, 5, 6, 7, 8, 9, 10, 11, 12], [0, 12])])
def spec_B36 : List Nat := [0, 0, 0, 6, 14, 0, 0, 96, 224, 510, 1022, 2046, 4095, 8191]
theorem spec_tab13 : rtab .any (opsOf Try.f18 13) = spec_T13 := by kernel_rfl
theorem spec_bits13 : waitsOk spec_T13.2 spec_B13 = true := by kernel_rfl
theorem spec_tab21 : rtab .any (opsOf Try.f18 21) = spec_T21 := by kernel_rfl
theorem spec_bits21 : waitsOk spec_T21.2 spec_B21 = true := by kernel_rfl
theorem spec_tab36 : rtab .any (opsOf Try.f18 36) = spec_T36 := by kernel_rfl
theorem spec_bits36 : waitsOk spec_T36.2 spec_B36 = true := by kernel_rfl
theorem turn2_ev (x n : Int) (w : World) (n0 : 0 ≤ n) (n1 : n ≤ 31) : Calls Try.prog 71 #[.int .i64 x, .int .i64 n] w fun e w' => e = .returned (.int .i64 (sh_rot x n)) ∧ ∃ q, w' = w.drewN q :=
 (spec_l04Turn.calls x n (sh_rot x n) w (turn_some x n n0 n1)).mono (fun e w' h => ⟨h.1, h.2.out⟩)
theorem word2_yes (x : Int) (w : World) (h : Wd x) : Calls Try.prog 70 #[.int .i64 x] w fun e w' => e = .returned (.bool true) ∧ ∃ q, w' = w.drewN q :=
 (spec_l04Word.calls x true w (by rw [word_some, decide_eq_true h])).mono (fun e w' h => ⟨h.1, h.2.out⟩)
theorem word2_no (x : Int) (w : World) (h : ¬ Wd x) : Calls Try.prog 70 #[.int .i64 x] w fun e w' => e = .returned (.bool false) ∧ ∃ q, w' = w.drewN q :=
 (spec_l04Word.calls x false w (by rw [word_some, decide_eq_false h])).mono (fun e w' h => ⟨h.1, h.2.out⟩)
def chX (e f g : Int) : Int := Go.bits .xor .i64 (Go.bits .and .i64 e f) (Go.bits .and .i64 (Go.bits .xor .i64 4294967295 e) g)
def majX (a b c : Int) : Int := Go.bits .xor .i64 (Go.bits .xor .i64 (Go.bits .and .i64 a b) (Go.bits .and .i64 a c)) (Go.bits .and .i64 b c)
def tX (v : List Int) (k x : Int) : Int := wrap64 (wrap64 (wrap64 (wrap64 (rd v 7 + Go.bits .xor .i64 (Go.bits .xor .i64 (sh_rot (rd v 4) 6) (sh_rot (rd v 4) 11)) (sh_rot (rd v 4) 25)) + chX (rd v 4) (rd v 5) (rd v 6)) + k) + x)
def uX (v : List Int) : Int := wrap64 (Go.bits .xor .i64 (Go.bits .xor .i64 (sh_rot (rd v 0) 2) (sh_rot (rd v 0) 13)) (sh_rot (rd v 0) 22) + majX (rd v 0) (rd v 1) (rd v 2))
def stepX (v : List Int) (k x : Int) : List Int := [Go.bits .and .i64 (wrap64 (tX v k x + uX v)) 4294967295, rd v 0, rd v 1, rd v 2, Go.bits .and .i64 (wrap64 (rd v 3 + tX v k x)) 4294967295, rd v 4, rd v 5, rd v 6]
theorem stepX_eq (v : List Int) (k x : Int) (h : ∀ i, Wd (rd v i)) : stepX v k x = stepI v k x := by
 have e1 : tX v k x = tI v k x := by
  unfold tX tI chX
  rw [ch_eq (h 4) (h 5) (h 6)]
 have e2 : uX v = uI v := by
  unfold uX uI majX
  rw [maj_eq (h 0) (h 1) (h 2)]
 unfold stepX stepI
 rw [e1, e2]
set_option maxHeartbeats 16000000 in
set_option maxRecDepth 100000 in
theorem spec_good (A0 : Option Addr) (c0 : Nat) (l0 : List Int) (A1 : Option Addr) (c1 : Nat) (l1 : List Int) (w : World) (hr0 : Kd.C (Kd.int .i64) w A0 8 l0) (hr1 : Kd.C (Kd.int .u8) w A1 64 l1)
  (hw : ∀ x ∈ l0, Wd x) :
  Calls Try.prog 18 #[.slice A0 8 c0, .slice A1 64 c1] w fun e w' => ∃ v0_ : Value, e = .returned (v0_) ∧ Kd.R (Kd.int .i64) 3 w' w.heap.size (fun _ => True) v0_ (shaBlock l0 l1) ∧ Below w.heap.size w w' := by
 have HR0 := Aside0.mk hr0
 have HR1 := Aside0.mk hr1
 have HW := Aside0.mk hw
 have HL0 := Aside0.mk hr0.1
 have HL1 := Aside0.mk hr1.1
 clear hr0 hr1 hw
 go_enter Try.func18, Try.ntmps18
 go_wp2
 go_loopg [33] 8 (fun kq v33 w' => ∃ i : Nat, Aside0 (i + kq = 8) ∧ v33 = .int .i64 (i : Int) ∧ Aside0 (Below w.heap.size w w'))
 case atStart => exact ⟨0, ⟨rfl⟩, rfl, ⟨Below.refl _ _⟩⟩
 case round =>
  obtain ⟨i, HI, rfl, HB⟩ := hrel
  by_cases hlt : i < 8
  ·
   obtain ⟨ad, e1, hc1⟩ := Kd.at_int HR0.out (i : Int) (by omega) (by omega)
   cases e1
   rw [Int.toNat_natCast] at hc1
   replace hc1 := (HB.out.cell (World.block_lt_of_cell? w _ hc1)).trans hc1
   have hx := Aside0.mk (HW.out (rd l0 (i : Int)) (by have := HL0.out; rw [rd, Int.toNat_natCast, List.getD_eq_getElem?_getD, List.getElem?_eq_getElem (by omega)]; exact List.getElem_mem _))
   have p4 : ((i : Int) < 8) = True := eq_true (by omega)
   have p5 : (i < 8) = True := eq_true (by omega)
   clear hlt
   go_wp2_with (go_at_call 70; refine (word2_yes _ _ hx.out).mono ?_; rintro e w' ⟨rfl, qd, rfl⟩)
   go_roundg (gk - 1)
   case measure => have := HI.out; have := of_eq_true p5; omega
   case rel => exact ⟨i + 1, ⟨by have := HI.out; have := of_eq_true p5; omega⟩, (by first | go_num | (congr 1; unfold wrap64; omega) | (have := of_eq_true p5; congr 1; unfold wrap64; omega)), ⟨by apply pw_below_drewN; exact HB.out⟩⟩
  ·
   obtain rfl : i = 8 := by have := HI.out; omega
   clear hlt HI
   go_wp2_with (first | ((with_reducible refine gate_dst (N := 41) rfl ?_); refine Kd.R_lit (Kd.int .i64) (w0 := w) w.heap.size 3 ?hg (N := 41) ?hd (xs := ([] : List Int)) (inner := []) (ok := fun _ => True) (okp := fun _ => False) ?hr ?hp (fun _ hk => hk.elim) trivial HB.out HB.out.size (by simp) ?_; (case hd => rfl); (case hg => rfl); (case hr => first | (go_simp; done) | (go_simp; rfl)); (case hp => exact (Reps.none _ _)); intro v41 wl ho hb hg_ hnew_; clear HB; have HB := Aside0.mk hb; have HO := Aside0.mk ho; clear hnew_ hg_ hb ho))
   go_loopg [7, 8] 16 (fun kq v7 v8 w' => ∃ i j : Nat, Aside0 (i + kq = 16 ∧ j = 4 * i) ∧ v8 = .int .i64 (j : Int) ∧ Aside0 (Below w.heap.size w w') ∧ Aside0 (Kd.R (Kd.int .i64) 3 w' w.heap.size (fun _ => True) v7 ((List.range i).map (word l1))))
   case atStart => exact ⟨0, 0, ⟨rfl, rfl⟩, rfl, HB, HO⟩
   case round =>
    clear HB HO
    obtain ⟨i, j0, HI, rfl, HB, HO⟩ := hrel
    by_cases hlt : j0 < 64
    ·
     have hd : decide ((j0 : Int) < 64) = true := decide_eq_true (by omega)
     go_wp2
     obtain ⟨j1, hj1⟩ : ∃ j : Nat, j = j0 + 1 := ⟨_, rfl⟩
     obtain ⟨j2, hj2⟩ : ∃ j : Nat, j = j0 + 2 := ⟨_, rfl⟩
     obtain ⟨j3, hj3⟩ : ∃ j : Nat, j = j0 + 3 := ⟨_, rfl⟩
     have hI := HI.out
     obtain ⟨ad, e0, x0⟩ := Kd.at_int HR1.out (j0 : Int) (by omega) (by omega)
     obtain ⟨ad1, e1, x1⟩ := Kd.at_int HR1.out (j1 : Int) (by omega) (by omega)
     obtain ⟨ad2, e2, x2⟩ := Kd.at_int HR1.out (j2 : Int) (by omega) (by omega)
     obtain ⟨ad3, e3, x3⟩ := Kd.at_int HR1.out (j3 : Int) (by omega) (by omega)
     subst e0
     obtain rfl := Option.some.inj e1
     obtain rfl := Option.some.inj e2
     obtain rfl := Option.some.inj e3
     replace x0 := (HB.out.cell (World.block_lt_of_cell? w _ x0)).trans x0
     replace x1 := (HB.out.cell (World.block_lt_of_cell? w _ x1)).trans x1
     replace x2 := (HB.out.cell (World.block_lt_of_cell? w _ x2)).trans x2
     replace x3 := (HB.out.cell (World.block_lt_of_cell? w _ x3)).trans x3
     rw [Int.toNat_natCast] at x0 x1 x2 x3
     obtain ⟨b0, hb0⟩ : ∃ b, b = rd l1 (j0 : Int) := ⟨_, rfl⟩
     rw [← hb0] at x0
     have HB0 := Aside0.mk hb0
     obtain ⟨b1, hb1⟩ : ∃ b, b = rd l1 (j1 : Int) := ⟨_, rfl⟩
     rw [← hb1] at x1
     have HB1 := Aside0.mk hb1
     obtain ⟨b2, hb2⟩ : ∃ b, b = rd l1 (j2 : Int) := ⟨_, rfl⟩
     rw [← hb2] at x2
     have HB2 := Aside0.mk hb2
     obtain ⟨b3, hb3⟩ : ∃ b, b = rd l1 (j3 : Int) := ⟨_, rfl⟩
     rw [← hb3] at x3
     have HB3 := Aside0.mk hb3
     have m1 : IntKind.i64.wrap ((j0 : Int) + 1) = (j1 : Int) := by rw [i64_w]; unfold wrap64; omega
     have m2 : IntKind.i64.wrap ((j0 : Int) + 2) = (j2 : Int) := by rw [i64_w]; unfold wrap64; omega
     have m3 : IntKind.i64.wrap ((j0 : Int) + 3) = (j3 : Int) := by rw [i64_w]; unfold wrap64; omega
     have p0 : ((j0 : Int) < 64) = True := eq_true (by omega)
     have q0 : (j0 < 64) = True := eq_true (by omega)
     have p1 : ((j1 : Int) < 64) = True := eq_true (by omega)
     have q1 : (j1 < 64) = True := eq_true (by omega)
     have p2 : ((j2 : Int) < 64) = True := eq_true (by omega)
     have q2 : (j2 < 64) = True := eq_true (by omega)
     have p3 : ((j3 : Int) < 64) = True := eq_true (by omega)
     have q3 : (j3 < 64) = True := eq_true (by omega)
     have HJ1 := Aside0.mk hj1
     have HJ2 := Aside0.mk hj2
     have HJ3 := Aside0.mk hj3
     clear hj1 hj2 hj3 hd hb0 hb1 hb2 hb3 hI hlt e1 e2 e3
     have HB' := Aside0.mk (below_drew1 HB.out)
     have HO' := Aside0.mk (Kd.R_drew HO.out)
     clear HB HO
     refine start_ (n := 33) (S := fun w' => w'.cell? (ad.add j0) = some (.int .u8 b0) ∧ w'.cell? (ad.add j1) = some (.int .u8 b1) ∧ w'.cell? (ad.add j2) = some (.int .u8 b2) ∧ w'.cell? (ad.add j3) = some (.int .u8 b3)) (ds := [30, 31]) #[false, false, false, false, false, false, false, false, false, false, false, false, false, false, false, false, false, false, false, false, false, false, false, false, false, false, false, false, false, false, false, false, false] (by kernel_rfl) rfl rfl ⟨x0, x1, x2, x3⟩ (fun hHeld => ?_); refine with_tabW spec_tab13 spec_bits13 (fun HT_ HW_ => ?_)
     clear x0 x1 x2 x3
     generalize wr.drew = w2 at HB' HO' hHeld ⊢
     refine pure_ (i := 0) (N := some 46) (v := ?_) (a' := ?_) #[true, false, false, false, false, false, false, false, false, false, false, false, false, false, false, false, false, false, false, false, false, false, false, false, false, false, false, false, false, false, false, false, false] rfl rfl (any_of HT_.out (by kernel_rfl)) (fun _ _ _ h => h) (Or.inl ⟨by rfl, ?_⟩) ?_ ?_
     rotate_left
     ·
      intro w'
      go_simp
      with_reducible rfl
     rotate_left
     ·
      simp only [Act.put, List.setIfInBounds_toArray, List.set_cons_zero, List.set_cons_succ, i64_w, i32_w]
      rfl
     refine pure_ (i := 1) (N := some 47) (v := ?_) (a' := ?_) #[true, true, false, false, false, false, false, false, false, false, false, false, false, false, false, false, false, false, false, false, false, false, false, false, false, false, false, false, false, false, false, false, false] rfl rfl (any_of HT_.out (by kernel_rfl)) (fun _ _ _ h => h) (Or.inl ⟨by rfl, ?_⟩) ?_ ?_
     rotate_left
     ·
      intro w'
      go_simp
      with_reducible rfl
     rotate_left
     ·
      simp only [Act.put, List.setIfInBounds_toArray, List.set_cons_zero, List.set_cons_succ, i64_w, i32_w]
      rfl
     refine pure_ (i := 2) (N := some 48) (v := ?_) (a' := ?_) #[true, true, true, false, false, false, false, false, false, false, false, false, false, false, false, false, false, false, false, false, false, false, false, false, false, false, false, false, false, false, false, false, false] rfl rfl (any_of HT_.out (by kernel_rfl)) (fun _ _ _ h => h) (Or.inl ⟨by rfl, ?_⟩) ?_ ?_
     rotate_left
     ·
      intro w'
      go_simp
      with_reducible rfl
     rotate_left
     ·
      simp only [Act.put, List.setIfInBounds_toArray, List.set_cons_zero, List.set_cons_succ, i64_w, i32_w]
      rfl
     refine pure_ (i := 3) (N := some 49) (v := ?_) (a' := ?_) #[true, true, true, true, false, false, false, false, false, false, false, false, false, false, false, false, false, false, false, false, false, false, false, false, false, false, false, false, false, false, false, false, false] rfl rfl (any_of HT_.out (by kernel_rfl)) (fun _ _ _ h => h) (Or.inl ⟨by rfl, ?_⟩) ?_ ?_
     rotate_left
     ·
      intro w'
      go_simp
      with_reducible rfl
     rotate_left
     ·
      simp only [Act.put, List.setIfInBounds_toArray, List.set_cons_zero, List.set_cons_succ, i64_w, i32_w]
      rfl
     refine pure_ (i := 7) (N := some 53) (v := ?_) (a' := ?_) #[true, true, true, true, false, false, false, true, false, false, false, false, false, false, false, false, false, false, false, false, false, false, false, false, false, false, false, false, false, false, false, false, false] rfl rfl (any_of HT_.out (by kernel_rfl)) (fun _ _ _ h => h) (Or.inl ⟨by rfl, ?_⟩) ?_ ?_
     rotate_left
     ·
      intro w'
      go_simp
      with_reducible rfl
     rotate_left
     ·
      simp only [Act.put, List.setIfInBounds_toArray, List.set_cons_zero, List.set_cons_succ, i64_w, i32_w]
      rfl
     refine pure_ (i := 8) (N := some 54) (v := ?_) (a' := ?_) #[true, true, true, true, false, false, false, true, true, false, false, false, false, false, false, false, false, false, false, false, false, false, false, false, false, false, false, false, false, false, false, false, false] rfl rfl (any_of HT_.out (by kernel_rfl)) (fun _ _ _ h => h) (Or.inl ⟨by rfl, ?_⟩) ?_ ?_
     rotate_left
     ·
      intro w'
      go_simp
      with_reducible rfl
     rotate_left
     ·
      simp only [Act.put, List.setIfInBounds_toArray, List.set_cons_zero, List.set_cons_succ, i64_w, i32_w]
      rfl
     refine pure_ (i := 9) (N := some 55) (v := ?_) (a' := ?_) #[true, true, true, true, false, false, false, true, true, true, false, false, false, false, false, false, false, false, false, false, false, false, false, false, false, false, false, false, false, false, false, false, false] rfl rfl (any_of HT_.out (by kernel_rfl)) (fun _ _ _ h => h) (Or.inl ⟨by rfl, ?_⟩) ?_ ?_
     rotate_left
     ·
      intro w'
      go_simp
      with_reducible rfl
     rotate_left
     ·
      simp only [Act.put, List.setIfInBounds_toArray, List.set_cons_zero, List.set_cons_succ, i64_w, i32_w]
      rfl
     refine pure_ (i := 10) (N := some 56) (v := ?_) (a' := ?_) #[true, true, true, true, false, false, false, true, true, true, true, false, false, false, false, false, false, false, false, false, false, false, false, false, false, false, false, false, false, false, false, false, false] rfl rfl (any_of HT_.out (by kernel_rfl)) (fun _ _ _ h => h) (Or.inl ⟨by rfl, ?_⟩) ?_ ?_
     rotate_left
     ·
      intro w'
      go_simp
      with_reducible rfl
     rotate_left
     ·
      simp only [Act.put, List.setIfInBounds_toArray, List.set_cons_zero, List.set_cons_succ, i64_w, i32_w]
      rfl
     refine pure_ (i := 15) (N := some 61) (v := ?_) (a' := ?_) #[true, true, true, true, false, false, false, true, true, true, true, false, false, false, false, true, false, false, false, false, false, false, false, false, false, false, false, false, false, false, false, false, false] rfl rfl (any_of HT_.out (by kernel_rfl)) (fun _ _ _ h => h) (Or.inl ⟨by rfl, ?_⟩) ?_ ?_
     rotate_left
     ·
      intro w'
      go_simp
      with_reducible rfl
     rotate_left
     ·
      simp only [Act.put, List.setIfInBounds_toArray, List.set_cons_zero, List.set_cons_succ, i64_w, i32_w]
      rfl
     refine pure_ (i := 16) (N := some 62) (v := ?_) (a' := ?_) #[true, true, true, true, false, false, false, true, true, true, true, false, false, false, false, true, true, false, false, false, false, false, false, false, false, false, false, false, false, false, false, false, false] rfl rfl (any_of HT_.out (by kernel_rfl)) (fun _ _ _ h => h) (Or.inl ⟨by rfl, ?_⟩) ?_ ?_
     rotate_left
     ·
      intro w'
      go_simp
      with_reducible rfl
     rotate_left
     ·
      simp only [Act.put, List.setIfInBounds_toArray, List.set_cons_zero, List.set_cons_succ, i64_w, i32_w]
      rfl
     refine pure_ (i := 17) (N := some 63) (v := ?_) (a' := ?_) #[true, true, true, true, false, false, false, true, true, true, true, false, false, false, false, true, true, true, false, false, false, false, false, false, false, false, false, false, false, false, false, false, false] rfl rfl (any_of HT_.out (by kernel_rfl)) (fun _ _ _ h => h) (Or.inl ⟨by rfl, ?_⟩) ?_ ?_
     rotate_left
     ·
      intro w'
      go_simp
      with_reducible rfl
     rotate_left
     ·
      simp only [Act.put, List.setIfInBounds_toArray, List.set_cons_zero, List.set_cons_succ, i64_w, i32_w]
      rfl
     refine pure_ (i := 18) (N := some 64) (v := ?_) (a' := ?_) #[true, true, true, true, false, false, false, true, true, true, true, false, false, false, false, true, true, true, true, false, false, false, false, false, false, false, false, false, false, false, false, false, false] rfl rfl (any_of HT_.out (by kernel_rfl)) (fun _ _ _ h => h) (Or.inl ⟨by rfl, ?_⟩) ?_ ?_
     rotate_left
     ·
      intro w'
      go_simp
      with_reducible rfl
     rotate_left
     ·
      simp only [Act.put, List.setIfInBounds_toArray, List.set_cons_zero, List.set_cons_succ, i64_w, i32_w]
      rfl
     refine pure_ (i := 23) (N := some 69) (v := ?_) (a' := ?_) #[true, true, true, true, false, false, false, true, true, true, true, false, false, false, false, true, true, true, true, false, false, false, false, true, false, false, false, false, false, false, false, false, false] rfl rfl (any_of HT_.out (by kernel_rfl)) (fun _ _ _ h => h) (Or.inl ⟨by rfl, ?_⟩) ?_ ?_
     rotate_left
     ·
      intro w'
      go_simp
      with_reducible rfl
     rotate_left
     ·
      simp only [Act.put, List.setIfInBounds_toArray, List.set_cons_zero, List.set_cons_succ, i64_w, i32_w]
      rfl
     refine pure_ (i := 24) (N := some 70) (v := ?_) (a' := ?_) #[true, true, true, true, false, false, false, true, true, true, true, false, false, false, false, true, true, true, true, false, false, false, false, true, true, false, false, false, false, false, false, false, false] rfl rfl (any_of HT_.out (by kernel_rfl)) (fun _ _ _ h => h) (Or.inl ⟨by rfl, ?_⟩) ?_ ?_
     rotate_left
     ·
      intro w'
      go_simp
      with_reducible rfl
     rotate_left
     ·
      simp only [Act.put, List.setIfInBounds_toArray, List.set_cons_zero, List.set_cons_succ, i64_w, i32_w]
      rfl
     refine pure_ (i := 25) (N := some 71) (v := ?_) (a' := ?_) #[true, true, true, true, false, false, false, true, true, true, true, false, false, false, false, true, true, true, true, false, false, false, false, true, true, true, false, false, false, false, false, false, false] rfl rfl (any_of HT_.out (by kernel_rfl)) (fun _ _ _ h => h) (Or.inl ⟨by rfl, ?_⟩) ?_ ?_
     rotate_left
     ·
      intro w'
      go_simp
      with_reducible rfl
     rotate_left
     ·
      simp only [Act.put, List.setIfInBounds_toArray, List.set_cons_zero, List.set_cons_succ, i64_w, i32_w]
      rfl
     refine pure_ (i := 26) (N := some 72) (v := ?_) (a' := ?_) #[true, true, true, true, false, false, false, true, true, true, true, false, false, false, false, true, true, true, true, false, false, false, false, true, true, true, true, false, false, false, false, false, false] rfl rfl (any_of HT_.out (by kernel_rfl)) (fun _ _ _ h => h) (Or.inl ⟨by rfl, ?_⟩) ?_ ?_
     rotate_left
     ·
      intro w'
      go_simp
      with_reducible rfl
     rotate_left
     ·
      simp only [Act.put, List.setIfInBounds_toArray, List.set_cons_zero, List.set_cons_succ, i64_w, i32_w]
      rfl
     refine take_ (i := 4) (N := some 50) (v := ?_) (a' := ?_) #[true, true, true, true, true, false, false, true, true, true, true, false, false, false, false, true, true, true, true, false, false, false, false, true, true, true, true, false, false, false, false, false, false] rfl rfl (take_ofW HT_.out HW_.out (by kernel_rfl)) (fun _ _ _ h => h) (Or.inl ⟨by rfl, ?_⟩) hHeld ?_ ?_
     rotate_left
     ·
      rintro w' ⟨s0, s1, s2, s3⟩
      go_simp
      with_reducible rfl
     rotate_left
     ·
      simp only [Act.put, List.setIfInBounds_toArray, List.set_cons_zero, List.set_cons_succ, i64_w, i32_w]
      rfl
     refine take_ (i := 11) (N := some 57) (v := ?_) (a' := ?_) #[true, true, true, true, true, false, false, true, true, true, true, true, false, false, false, true, true, true, true, false, false, false, false, true, true, true, true, false, false, false, false, false, false] rfl rfl (take_ofW HT_.out HW_.out (by kernel_rfl)) (fun _ _ _ h => h) (Or.inl ⟨by rfl, ?_⟩) hHeld ?_ ?_
     rotate_left
     ·
      rintro w' ⟨s0, s1, s2, s3⟩
      go_simp
      with_reducible rfl
     rotate_left
     ·
      simp only [Act.put, List.setIfInBounds_toArray, List.set_cons_zero, List.set_cons_succ, i64_w, i32_w]
      rfl
     refine take_ (i := 19) (N := some 65) (v := ?_) (a' := ?_) #[true, true, true, true, true, false, false, true, true, true, true, true, false, false, false, true, true, true, true, true, false, false, false, true, true, true, true, false, false, false, false, false, false] rfl rfl (take_ofW HT_.out HW_.out (by kernel_rfl)) (fun _ _ _ h => h) (Or.inl ⟨by rfl, ?_⟩) hHeld ?_ ?_
     rotate_left
     ·
      rintro w' ⟨s0, s1, s2, s3⟩
      go_simp
      with_reducible rfl
     rotate_left
     ·
      simp only [Act.put, List.setIfInBounds_toArray, List.set_cons_zero, List.set_cons_succ, i64_w, i32_w]
      rfl
     refine take_ (i := 27) (N := some 73) (v := ?_) (a' := ?_) #[true, true, true, true, true, false, false, true, true, true, true, true, false, false, false, true, true, true, true, true, false, false, false, true, true, true, true, true, false, false, false, false, false] rfl rfl (take_ofW HT_.out HW_.out (by kernel_rfl)) (fun _ _ _ h => h) (Or.inl ⟨by rfl, ?_⟩) hHeld ?_ ?_
     rotate_left
     ·
      rintro w' ⟨s0, s1, s2, s3⟩
      go_simp
      with_reducible rfl
     rotate_left
     ·
      simp only [Act.put, List.setIfInBounds_toArray, List.set_cons_zero, List.set_cons_succ, i64_w, i32_w]
      rfl
     refine pure_ (i := 5) (N := some 51) (v := ?_) (a' := ?_) #[true, true, true, true, true, true, false, true, true, true, true, true, false, false, false, true, true, true, true, true, false, false, false, true, true, true, true, true, false, false, false, false, false] rfl rfl (any_of HT_.out (by kernel_rfl)) (fun _ _ _ h => h) (Or.inl ⟨by rfl, ?_⟩) ?_ ?_
     rotate_left
     ·
      intro w'
      go_simp
      with_reducible rfl
     rotate_left
     ·
      simp only [Act.put, List.setIfInBounds_toArray, List.set_cons_zero, List.set_cons_succ, i64_w, i32_w]
      rfl
     refine pure_ (i := 6) (N := some 52) (v := ?_) (a' := ?_) #[true, true, true, true, true, true, true, true, true, true, true, true, false, false, false, true, true, true, true, true, false, false, false, true, true, true, true, true, false, false, false, false, false] rfl rfl (any_of HT_.out (by kernel_rfl)) (fun _ _ _ h => h) (Or.inl ⟨by rfl, ?_⟩) ?_ ?_
     rotate_left
     ·
      intro w'
      go_simp
      with_reducible rfl
     rotate_left
     ·
      simp only [Act.put, List.setIfInBounds_toArray, List.set_cons_zero, List.set_cons_succ, i64_w, i32_w]
      rfl
     refine pure_ (i := 12) (N := some 58) (v := ?_) (a' := ?_) #[true, true, true, true, true, true, true, true, true, true, true, true, true, false, false, true, true, true, true, true, false, false, false, true, true, true, true, true, false, false, false, false, false] rfl rfl (any_of HT_.out (by kernel_rfl)) (fun _ _ _ h => h) (Or.inl ⟨by rfl, ?_⟩) ?_ ?_
     rotate_left
     ·
      intro w'
      go_simp
      with_reducible rfl
     rotate_left
     ·
      simp only [Act.put, List.setIfInBounds_toArray, List.set_cons_zero, List.set_cons_succ, i64_w, i32_w]
      rfl
     refine pure_ (i := 13) (N := some 59) (v := ?_) (a' := ?_) #[true, true, true, true, true, true, true, true, true, true, true, true, true, true, false, true, true, true, true, true, false, false, false, true, true, true, true, true, false, false, false, false, false] rfl rfl (any_of HT_.out (by kernel_rfl)) (fun _ _ _ h => h) (Or.inl ⟨by rfl, ?_⟩) ?_ ?_
     rotate_left
     ·
      intro w'
      go_simp
      with_reducible rfl
     rotate_left
     ·
      simp only [Act.put, List.setIfInBounds_toArray, List.set_cons_zero, List.set_cons_succ, i64_w, i32_w]
      rfl
     refine pure_ (i := 14) (N := some 60) (v := ?_) (a' := ?_) #[true, true, true, true, true, true, true, true, true, true, true, true, true, true, true, true, true, true, true, true, false, false, false, true, true, true, true, true, false, false, false, false, false] rfl rfl (any_of HT_.out (by kernel_rfl)) (fun _ _ _ h => h) (Or.inl ⟨by rfl, ?_⟩) ?_ ?_
     rotate_left
     ·
      intro w'
      go_simp
      with_reducible rfl
     rotate_left
     ·
      simp only [Act.put, List.setIfInBounds_toArray, List.set_cons_zero, List.set_cons_succ, i64_w, i32_w]
      rfl
     refine pure_ (i := 20) (N := some 66) (v := ?_) (a' := ?_) #[true, true, true, true, true, true, true, true, true, true, true, true, true, true, true, true, true, true, true, true, true, false, false, true, true, true, true, true, false, false, false, false, false] rfl rfl (any_of HT_.out (by kernel_rfl)) (fun _ _ _ h => h) (Or.inl ⟨by rfl, ?_⟩) ?_ ?_
     rotate_left
     ·
      intro w'
      go_simp
      with_reducible rfl
     rotate_left
     ·
      simp only [Act.put, List.setIfInBounds_toArray, List.set_cons_zero, List.set_cons_succ, i64_w, i32_w]
      rfl
     refine pure_ (i := 21) (N := some 67) (v := ?_) (a' := ?_) #[true, true, true, true, true, true, true, true, true, true, true, true, true, true, true, true, true, true, true, true, true, true, false, true, true, true, true, true, false, false, false, false, false] rfl rfl (any_of HT_.out (by kernel_rfl)) (fun _ _ _ h => h) (Or.inl ⟨by rfl, ?_⟩) ?_ ?_
     rotate_left
     ·
      intro w'
      go_simp
      with_reducible rfl
     rotate_left
     ·
      simp only [Act.put, List.setIfInBounds_toArray, List.set_cons_zero, List.set_cons_succ, i64_w, i32_w]
      rfl
     refine pure_ (i := 22) (N := some 68) (v := ?_) (a' := ?_) #[true, true, true, true, true, true, true, true, true, true, true, true, true, true, true, true, true, true, true, true, true, true, true, true, true, true, true, true, false, false, false, false, false] rfl rfl (any_of HT_.out (by kernel_rfl)) (fun _ _ _ h => h) (Or.inl ⟨by rfl, ?_⟩) ?_ ?_
     rotate_left
     ·
      intro w'
      go_simp
      with_reducible rfl
     rotate_left
     ·
      simp only [Act.put, List.setIfInBounds_toArray, List.set_cons_zero, List.set_cons_succ, i64_w, i32_w]
      rfl
     refine pure_ (i := 28) (N := some 74) (v := ?_) (a' := ?_) #[true, true, true, true, true, true, true, true, true, true, true, true, true, true, true, true, true, true, true, true, true, true, true, true, true, true, true, true, true, false, false, false, false] rfl rfl (any_of HT_.out (by kernel_rfl)) (fun _ _ _ h => h) (Or.inl ⟨by rfl, ?_⟩) ?_ ?_
     rotate_left
     ·
      intro w'
      go_simp
      with_reducible rfl
     rotate_left
     ·
      simp only [Act.put, List.setIfInBounds_toArray, List.set_cons_zero, List.set_cons_succ, i64_w, i32_w]
      rfl
     refine pure_ (i := 29) (N := some 75) (v := ?_) (a' := ?_) #[true, true, true, true, true, true, true, true, true, true, true, true, true, true, true, true, true, true, true, true, true, true, true, true, true, true, true, true, true, true, false, false, false] rfl rfl (any_of HT_.out (by kernel_rfl)) (fun _ _ _ h => h) (Or.inl ⟨by rfl, ?_⟩) ?_ ?_
     rotate_left
     ·
      intro w'
      go_simp
      with_reducible rfl
     rotate_left
     ·
      simp only [Act.put, List.setIfInBounds_toArray, List.set_cons_zero, List.set_cons_succ, i64_w, i32_w]
      rfl
     refine last_ (i := 30) (N := some 76) #[true, true, true, true, true, true, true, true, true, true, true, true, true, true, true, true, true, true, true, true, true, true, true, true, true, true, true, true, true, true, true, false, false] rfl rfl (one_of HT_.out (by kernel_rfl)) (by decide) (fun K hK => ?_)
     refine value_ (w1 := ?_) (v := ?_) (by rfl) rfl ?_ ?_
     rotate_left 2
     ·
      go_simp
      constructor
      ·
       rfl
      ·
       rfl
     refine hK.out _ _ ?_
     clear hK K
     refine norm_ (a' := ?_) ?_ ?_
     rotate_left
     ·
      show Act.put _ (some 76) _ = _
      simp only [Act.put, List.setIfInBounds_toArray, List.set_cons_zero, List.set_cons_succ, i64_w, i32_w]
      rfl
     refine last_ (i := 31) (N := some 77) #[true, true, true, true, true, true, true, true, true, true, true, true, true, true, true, true, true, true, true, true, true, true, true, true, true, true, true, true, true, true, true, true, false] rfl rfl (one_of HT_.out (by kernel_rfl)) (by decide) (fun K hK => ?_)
     refine Kd.R_append_step (Kd.int .i64) (w0 := w) w.heap.size (by rfl) (.tmp 46) (.tmp 76) 22 3 (.int .i64 0) 8 rfl Try.underlying22 info3 rfl (by decide) (by omega) u7 ((List.range i).map (word l1)) (Go.bits .or .i64 (Go.bits .or .i64 (Go.bits .or .i64 (wrap64 ((wrap64 b0) * 16777216)) (wrap64 ((wrap64 b1) * 65536))) (wrap64 ((wrap64 b2) * 256))) (wrap64 b3)) [.int .i64 (Go.bits .or .i64 (Go.bits .or .i64 (Go.bits .or .i64 (wrap64 ((wrap64 b0) * 16777216)) (wrap64 ((wrap64 b1) * 65536))) (wrap64 ((wrap64 b2) * 256))) (wrap64 b3))] (fun _ => True) (fun _ => False) rfl rfl ?aP (fun _ hk => hk.elim) ?aF ?aO ?aB ?aS ?aL ?_
     (case aP => exact rfl)
     (case aF => exact fun _ _ => trivial)
     (case aO => exact HO'.out)
     (case aB => exact HB'.out)
     (case aS => exact HB'.out.size)
     (case aL => have := HI.out; rw [List.length_map, List.length_range]; omega)
     intro v77 w8 ho hb hg_ hat
     have HBn := Aside0.mk hb
     have HO3 := Aside0.mk ho
     clear ho hb hg_ hat HB' HO'
     refine hK.out _ _ ?_
     clear hK K
     refine norm_ (a' := ?_) ?_ ?_
     rotate_left
     ·
      show Act.put _ (some 77) _ = _
      simp only [Act.put, List.setIfInBounds_toArray, List.set_cons_zero, List.set_cons_succ, i64_w, i32_w]
      rfl
     refine pure_ (i := 32) (N := some 7) (v := ?_) (a' := ?_) #[true, true, true, true, true, true, true, true, true, true, true, true, true, true, true, true, true, true, true, true, true, true, true, true, true, true, true, true, true, true, true, true, true] rfl rfl (any_of HT_.out (by kernel_rfl)) (fun _ _ _ h => h) (Or.inl ⟨by rfl, ?_⟩) ?_ ?_
     rotate_left
     ·
      intro w'
      go_simp
      with_reducible rfl
     rotate_left
     ·
      simp only [Act.put, List.setIfInBounds_toArray, List.set_cons_zero, List.set_cons_succ, i64_w, i32_w]
      rfl
     refine done_ (done_of HT_.out (by kernel_rfl)) ?_
     try go_wp2
     go_roundg (gk - 1)
     case measure => have := HI.out; have := of_eq_true q0; omega
     case rel =>
      have hI := HI.out
      have hlt := of_eq_true q0
      refine ⟨i + 1, j0 + 4, ⟨by omega, by omega⟩, (by first | (congr 1; unfold wrap64; omega) | go_num), HBn, ⟨?_⟩⟩
      have q := HO3.out
      have e : word l1 i = Go.bits .or .i64 (Go.bits .or .i64 (Go.bits .or .i64 (wrap64 ((wrap64 b0) * 16777216)) (wrap64 ((wrap64 b1) * 65536))) (wrap64 ((wrap64 b2) * 256))) (wrap64 b3) := by
       unfold word
       rw [← hI.2, ← HJ1.out, ← HJ2.out, ← HJ3.out, ← HB0.out, ← HB1.out, ← HB2.out, ← HB3.out]
      rw [← e] at q
      rw [List.range_succ, List.map_append]
      exact q
    ·
     obtain ⟨rfl, rfl⟩ : i = 16 ∧ j0 = 64 := by have := HI.out; omega
     clear hlt HI
     have HO2 := Aside0.mk HO.out
     rw [← sched16] at HO2
     clear HO
     go_wp2
     go_loopg [7, 9] 48 (fun kq v7 v9 w' => ∃ n i : Nat, Aside0 (n + kq = 48 ∧ i = 16 + n) ∧ v9 = .int .i64 (i : Int) ∧ Aside0 (Below w.heap.size w w') ∧ Aside0 (Kd.R (Kd.int .i64) 3 w' w.heap.size (fun _ => True) v7 (sched l1 n)))
     case atStart => exact ⟨0, 16, ⟨rfl, rfl⟩, rfl, HB, HO2⟩
     case round =>
      clear HB HO2
      obtain ⟨n, i, HN, rfl, HB, HO⟩ := hrel
      have hN := HN.out
      have hlen := sched_length l1 n
      obtain ⟨bk, ck, ek, _⟩ := Kd.R_form HO.out (by omega)
      rw [hlen, ← hN.2] at ek
      subst ek
      have CW := Aside0.mk (Kd.R_reads' HO.out).2.2
      by_cases hlt : i < 64
      ·
       have hd : decide ((i : Int) < 64) = true := decide_eq_true (by omega)
       obtain ⟨j15, hj15⟩ : ∃ j : Nat, j = i - 15 := ⟨_, rfl⟩
       obtain ⟨ad15, e15, x15⟩ := Kd.at_int CW.out (j15 : Int) (by omega) (by omega)
       obtain rfl := Option.some.inj e15
       rw [Int.toNat_natCast, add_plain] at x15
       have m15 : IntKind.i64.wrap ((i : Int) - 15) = (j15 : Int) := by rw [i64_w]; unfold wrap64; omega
       have p15 : ((j15 : Int) < (i : Int)) = True := eq_true (by omega)
       have q15 : (j15 < i) = True := eq_true (by omega)
       obtain ⟨X15, hX15⟩ : ∃ X, X = rd (sched l1 n) (j15 : Int) := ⟨_, rfl⟩
       rw [← hX15] at x15
       have HX15 := Aside0.mk hX15
       have HJ15 := Aside0.mk hj15
       obtain ⟨j2, hj2⟩ : ∃ j : Nat, j = i - 2 := ⟨_, rfl⟩
       obtain ⟨ad2, e2, x2⟩ := Kd.at_int CW.out (j2 : Int) (by omega) (by omega)
       obtain rfl := Option.some.inj e2
       rw [Int.toNat_natCast, add_plain] at x2
       have m2 : IntKind.i64.wrap ((i : Int) - 2) = (j2 : Int) := by rw [i64_w]; unfold wrap64; omega
       have p2 : ((j2 : Int) < (i : Int)) = True := eq_true (by omega)
       have q2 : (j2 < i) = True := eq_true (by omega)
       obtain ⟨X2, hX2⟩ : ∃ X, X = rd (sched l1 n) (j2 : Int) := ⟨_, rfl⟩
       rw [← hX2] at x2
       have HX2 := Aside0.mk hX2
       have HJ2 := Aside0.mk hj2
       obtain ⟨j16, hj16⟩ : ∃ j : Nat, j = i - 16 := ⟨_, rfl⟩
       obtain ⟨ad16, e16, x16⟩ := Kd.at_int CW.out (j16 : Int) (by omega) (by omega)
       obtain rfl := Option.some.inj e16
       rw [Int.toNat_natCast, add_plain] at x16
       have m16 : IntKind.i64.wrap ((i : Int) - 16) = (j16 : Int) := by rw [i64_w]; unfold wrap64; omega
       have p16 : ((j16 : Int) < (i : Int)) = True := eq_true (by omega)
       have q16 : (j16 < i) = True := eq_true (by omega)
       obtain ⟨X16, hX16⟩ : ∃ X, X = rd (sched l1 n) (j16 : Int) := ⟨_, rfl⟩
       rw [← hX16] at x16
       have HX16 := Aside0.mk hX16
       have HJ16 := Aside0.mk hj16
       obtain ⟨j7, hj7⟩ : ∃ j : Nat, j = i - 7 := ⟨_, rfl⟩
       obtain ⟨ad7, e7, x7⟩ := Kd.at_int CW.out (j7 : Int) (by omega) (by omega)
       obtain rfl := Option.some.inj e7
       rw [Int.toNat_natCast, add_plain] at x7
       have m7 : IntKind.i64.wrap ((i : Int) - 7) = (j7 : Int) := by rw [i64_w]; unfold wrap64; omega
       have p7 : ((j7 : Int) < (i : Int)) = True := eq_true (by omega)
       have q7 : (j7 < i) = True := eq_true (by omega)
       obtain ⟨X7, hX7⟩ : ∃ X, X = rd (sched l1 n) (j7 : Int) := ⟨_, rfl⟩
       rw [← hX7] at x7
       have HX7 := Aside0.mk hX7
       have HJ7 := Aside0.mk hj7
       have p4 := Aside0.mk hlt
       have HLEN := Aside0.mk hlen
       clear hX15 hX2 hX16 hX7 hj15 hj2 hj16 hj7 hN hlen hlt e15 e2 e16 e7 CW
       go_wp2_with (go_at_call 71; refine (turn2_ev _ _ _ (by decide) (by decide)).mono ?_; rintro e w' ⟨rfl, qd, rfl⟩)
       generalize hq : World.drewN wr _ = w3
       have HB3 : Aside0 (Below w.heap.size w w3) := ⟨by rw [← hq]; apply pw_below_drewN; exact HB.out⟩
       have HO3 : Aside0 (Kd.R (Kd.int .i64) 3 w3 w.heap.size (fun _ => True) (.slice (some ⟨bk, 0, none⟩) i ck) (sched l1 n)) := ⟨by rw [← hq]; apply Kd.R_drewN; exact HO.out⟩
       replace x16 : w3.cell? ⟨bk, j16, none⟩ = some (.int .i64 X16) := by rw [← hq]; exact x16
       replace x7 : w3.cell? ⟨bk, j7, none⟩ = some (.int .i64 X7) := by rw [← hq]; exact x7
       clear hq HB HO x15 x2
       have HB' := Aside0.mk (below_drew1 HB3.out)
       have HO' := Aside0.mk (Kd.R_drew HO3.out)
       clear HB3 HO3
       refine start_ (n := 20) (S := fun w' => w'.cell? ⟨bk, j16, none⟩ = some (.int .i64 X16) ∧ w'.cell? ⟨bk, j7, none⟩ = some (.int .i64 X7)) (ds := [17, 18]) #[false, false, false, false, false, false, false, false, false, false, false, false, false, false, false, false, false, false, false, false] (by kernel_rfl) rfl rfl ⟨x16, x7⟩ (fun hHeld => ?_); refine with_tabW spec_tab21 spec_bits21 (fun HT_ HW_ => ?_)
       clear x16 x7
       generalize w3.drew = w4 at HB' HO' hHeld ⊢
       refine pure_ (i := 0) (N := some 108) (v := ?_) (a' := ?_) #[true, false, false, false, false, false, false, false, false, false, false, false, false, false, false, false, false, false, false, false] rfl rfl (any_of HT_.out (by kernel_rfl)) (fun _ _ _ h => h) (Or.inl ⟨by rfl, ?_⟩) ?_ ?_
       rotate_left
       ·
        intro w'
        go_simp
        with_reducible rfl
       rotate_left
       ·
        simp only [Act.put, List.setIfInBounds_toArray, List.set_cons_zero, List.set_cons_succ, i64_w, i32_w]
        rfl
       refine pure_ (i := 1) (N := some 109) (v := ?_) (a' := ?_) #[true, true, false, false, false, false, false, false, false, false, false, false, false, false, false, false, false, false, false, false] rfl rfl (any_of HT_.out (by kernel_rfl)) (fun _ _ _ h => h) (Or.inl ⟨by rfl, ?_⟩) ?_ ?_
       rotate_left
       ·
        intro w'
        go_simp
        with_reducible rfl
       rotate_left
       ·
        simp only [Act.put, List.setIfInBounds_toArray, List.set_cons_zero, List.set_cons_succ, i64_w, i32_w]
        rfl
       refine pure_ (i := 2) (N := some 110) (v := ?_) (a' := ?_) #[true, true, true, false, false, false, false, false, false, false, false, false, false, false, false, false, false, false, false, false] rfl rfl (any_of HT_.out (by kernel_rfl)) (fun _ _ _ h => h) (Or.inl ⟨by rfl, ?_⟩) ?_ ?_
       rotate_left
       ·
        intro w'
        go_simp
        with_reducible rfl
       rotate_left
       ·
        simp only [Act.put, List.setIfInBounds_toArray, List.set_cons_zero, List.set_cons_succ, i64_w, i32_w]
        rfl
       refine pure_ (i := 3) (N := some 111) (v := ?_) (a' := ?_) #[true, true, true, true, false, false, false, false, false, false, false, false, false, false, false, false, false, false, false, false] rfl rfl (any_of HT_.out (by kernel_rfl)) (fun _ _ _ h => h) (Or.inl ⟨by rfl, ?_⟩) ?_ ?_
       rotate_left
       ·
        intro w'
        go_simp
        with_reducible rfl
       rotate_left
       ·
        simp only [Act.put, List.setIfInBounds_toArray, List.set_cons_zero, List.set_cons_succ, i64_w, i32_w]
        rfl
       refine pure_ (i := 4) (N := some 112) (v := ?_) (a' := ?_) #[true, true, true, true, true, false, false, false, false, false, false, false, false, false, false, false, false, false, false, false] rfl rfl (any_of HT_.out (by kernel_rfl)) (fun _ _ _ h => h) (Or.inl ⟨by rfl, ?_⟩) ?_ ?_
       rotate_left
       ·
        intro w'
        go_simp
        with_reducible rfl
       rotate_left
       ·
        simp only [Act.put, List.setIfInBounds_toArray, List.set_cons_zero, List.set_cons_succ, i64_w, i32_w]
        rfl
       refine pure_ (i := 6) (N := some 114) (v := ?_) (a' := ?_) #[true, true, true, true, true, false, true, false, false, false, false, false, false, false, false, false, false, false, false, false] rfl rfl (any_of HT_.out (by kernel_rfl)) (fun _ _ _ h => h) (Or.inl ⟨by rfl, ?_⟩) ?_ ?_
       rotate_left
       ·
        intro w'
        go_simp
        with_reducible rfl
       rotate_left
       ·
        simp only [Act.put, List.setIfInBounds_toArray, List.set_cons_zero, List.set_cons_succ, i64_w, i32_w]
        rfl
       refine pure_ (i := 8) (N := some 116) (v := ?_) (a' := ?_) #[true, true, true, true, true, false, true, false, true, false, false, false, false, false, false, false, false, false, false, false] rfl rfl (any_of HT_.out (by kernel_rfl)) (fun _ _ _ h => h) (Or.inl ⟨by rfl, ?_⟩) ?_ ?_
       rotate_left
       ·
        intro w'
        go_simp
        with_reducible rfl
       rotate_left
       ·
        simp only [Act.put, List.setIfInBounds_toArray, List.set_cons_zero, List.set_cons_succ, i64_w, i32_w]
        rfl
       refine pure_ (i := 9) (N := some 117) (v := ?_) (a' := ?_) #[true, true, true, true, true, false, true, false, true, true, false, false, false, false, false, false, false, false, false, false] rfl rfl (any_of HT_.out (by kernel_rfl)) (fun _ _ _ h => h) (Or.inl ⟨by rfl, ?_⟩) ?_ ?_
       rotate_left
       ·
        intro w'
        go_simp
        with_reducible rfl
       rotate_left
       ·
        simp only [Act.put, List.setIfInBounds_toArray, List.set_cons_zero, List.set_cons_succ, i64_w, i32_w]
        rfl
       refine pure_ (i := 10) (N := some 118) (v := ?_) (a' := ?_) #[true, true, true, true, true, false, true, false, true, true, true, false, false, false, false, false, false, false, false, false] rfl rfl (any_of HT_.out (by kernel_rfl)) (fun _ _ _ h => h) (Or.inl ⟨by rfl, ?_⟩) ?_ ?_
       rotate_left
       ·
        intro w'
        go_simp
        with_reducible rfl
       rotate_left
       ·
        simp only [Act.put, List.setIfInBounds_toArray, List.set_cons_zero, List.set_cons_succ, i64_w, i32_w]
        rfl
       refine pure_ (i := 11) (N := some 119) (v := ?_) (a' := ?_) #[true, true, true, true, true, false, true, false, true, true, true, true, false, false, false, false, false, false, false, false] rfl rfl (any_of HT_.out (by kernel_rfl)) (fun _ _ _ h => h) (Or.inl ⟨by rfl, ?_⟩) ?_ ?_
       rotate_left
       ·
        intro w'
        go_simp
        with_reducible rfl
       rotate_left
       ·
        simp only [Act.put, List.setIfInBounds_toArray, List.set_cons_zero, List.set_cons_succ, i64_w, i32_w]
        rfl
       refine pure_ (i := 14) (N := some 122) (v := ?_) (a' := ?_) #[true, true, true, true, true, false, true, false, true, true, true, true, false, false, true, false, false, false, false, false] rfl rfl (any_of HT_.out (by kernel_rfl)) (fun _ _ _ h => h) (Or.inl ⟨by rfl, ?_⟩) ?_ ?_
       rotate_left
       ·
        intro w'
        go_simp
        with_reducible rfl
       rotate_left
       ·
        simp only [Act.put, List.setIfInBounds_toArray, List.set_cons_zero, List.set_cons_succ, i64_w, i32_w]
        rfl
       refine take_ (i := 5) (N := some 113) (v := ?_) (a' := ?_) #[true, true, true, true, true, true, true, false, true, true, true, true, false, false, true, false, false, false, false, false] rfl rfl (take_ofW HT_.out HW_.out (by kernel_rfl)) (fun _ _ _ h => h) (Or.inl ⟨by rfl, ?_⟩) hHeld ?_ ?_
       rotate_left
       ·
        rintro w' ⟨s0, s1⟩
        go_simp
        with_reducible rfl
       rotate_left
       ·
        simp only [Act.put, List.setIfInBounds_toArray, List.set_cons_zero, List.set_cons_succ, i64_w, i32_w]
        rfl
       refine take_ (i := 12) (N := some 120) (v := ?_) (a' := ?_) #[true, true, true, true, true, true, true, false, true, true, true, true, true, false, true, false, false, false, false, false] rfl rfl (take_ofW HT_.out HW_.out (by kernel_rfl)) (fun _ _ _ h => h) (Or.inl ⟨by rfl, ?_⟩) hHeld ?_ ?_
       rotate_left
       ·
        rintro w' ⟨s0, s1⟩
        go_simp
        with_reducible rfl
       rotate_left
       ·
        simp only [Act.put, List.setIfInBounds_toArray, List.set_cons_zero, List.set_cons_succ, i64_w, i32_w]
        rfl
       refine pure_ (i := 7) (N := some 115) (v := ?_) (a' := ?_) #[true, true, true, true, true, true, true, true, true, true, true, true, true, false, true, false, false, false, false, false] rfl rfl (any_of HT_.out (by kernel_rfl)) (fun _ _ _ h => h) (Or.inl ⟨by rfl, ?_⟩) ?_ ?_
       rotate_left
       ·
        intro w'
        go_simp
        with_reducible rfl
       rotate_left
       ·
        simp only [Act.put, List.setIfInBounds_toArray, List.set_cons_zero, List.set_cons_succ, i64_w, i32_w]
        rfl
       refine pure_ (i := 13) (N := some 121) (v := ?_) (a' := ?_) #[true, true, true, true, true, true, true, true, true, true, true, true, true, true, true, false, false, false, false, false] rfl rfl (any_of HT_.out (by kernel_rfl)) (fun _ _ _ h => h) (Or.inl ⟨by rfl, ?_⟩) ?_ ?_
       rotate_left
       ·
        intro w'
        go_simp
        with_reducible rfl
       rotate_left
       ·
        simp only [Act.put, List.setIfInBounds_toArray, List.set_cons_zero, List.set_cons_succ, i64_w, i32_w]
        rfl
       refine pure_ (i := 15) (N := some 123) (v := ?_) (a' := ?_) #[true, true, true, true, true, true, true, true, true, true, true, true, true, true, true, true, false, false, false, false] rfl rfl (any_of HT_.out (by kernel_rfl)) (fun _ _ _ h => h) (Or.inl ⟨by rfl, ?_⟩) ?_ ?_
       rotate_left
       ·
        intro w'
        go_simp
        with_reducible rfl
       rotate_left
       ·
        simp only [Act.put, List.setIfInBounds_toArray, List.set_cons_zero, List.set_cons_succ, i64_w, i32_w]
        rfl
       refine pure_ (i := 16) (N := some 124) (v := ?_) (a' := ?_) #[true, true, true, true, true, true, true, true, true, true, true, true, true, true, true, true, true, false, false, false] rfl rfl (any_of HT_.out (by kernel_rfl)) (fun _ _ _ h => h) (Or.inl ⟨by rfl, ?_⟩) ?_ ?_
       rotate_left
       ·
        intro w'
        go_simp
        with_reducible rfl
       rotate_left
       ·
        simp only [Act.put, List.setIfInBounds_toArray, List.set_cons_zero, List.set_cons_succ, i64_w, i32_w]
        rfl
       refine last_ (i := 17) (N := some 125) #[true, true, true, true, true, true, true, true, true, true, true, true, true, true, true, true, true, true, false, false] rfl rfl (one_of HT_.out (by kernel_rfl)) (by decide) (fun K hK => ?_)
       refine value_ (w1 := ?_) (v := ?_) (by rfl) rfl ?_ ?_
       rotate_left 2
       ·
        go_simp
        constructor
        ·
         rfl
        ·
         rfl
       refine hK.out _ _ ?_
       clear hK K
       refine norm_ (a' := ?_) ?_ ?_
       rotate_left
       ·
        show Act.put _ (some 125) _ = _
        simp only [Act.put, List.setIfInBounds_toArray, List.set_cons_zero, List.set_cons_succ, i64_w, i32_w]
        rfl
       refine last_ (i := 18) (N := some 126) #[true, true, true, true, true, true, true, true, true, true, true, true, true, true, true, true, true, true, true, false] rfl rfl (one_of HT_.out (by kernel_rfl)) (by decide) (fun K hK => ?_)
       refine Kd.R_append_step (Kd.int .i64) (w0 := w) w.heap.size (by rfl) (.tmp 108) (.tmp 125) 22 3 (.int .i64 0) 8 rfl Try.underlying22 info3 rfl (by decide) (by omega) (.slice (some ⟨bk, 0, none⟩) i ck) (sched l1 n) (Go.bits .and .i64 (wrap64 ((wrap64 ((wrap64 (X16 + Go.bits .xor .i64 (Go.bits .xor .i64 (sh_rot X15 7) (sh_rot X15 18)) (X15 / 8))) + X7)) + Go.bits .xor .i64 (Go.bits .xor .i64 (sh_rot X2 17) (sh_rot X2 19)) (X2 / 1024))) 4294967295) [.int .i64 (Go.bits .and .i64 (wrap64 ((wrap64 ((wrap64 (X16 + Go.bits .xor .i64 (Go.bits .xor .i64 (sh_rot X15 7) (sh_rot X15 18)) (X15 / 8))) + X7)) + Go.bits .xor .i64 (Go.bits .xor .i64 (sh_rot X2 17) (sh_rot X2 19)) (X2 / 1024))) 4294967295)] (fun _ => True) (fun _ => False) rfl rfl ?aP (fun _ hk => hk.elim) ?aF ?aO ?aB ?aS ?aL ?_
       (case aP => exact rfl)
       (case aF => exact fun _ _ => trivial)
       (case aO => exact HO'.out)
       (case aB => exact HB'.out)
       (case aS => exact HB'.out.size)
       (case aL => have := HN.out; rw [HLEN.out]; omega)
       intro v126 w8 ho hb hg_ hat
       have HB4 := Aside0.mk hb
       have HO4 := Aside0.mk ho
       clear ho hb hg_ hat HB' HO'
       refine hK.out _ _ ?_
       clear hK K
       refine norm_ (a' := ?_) ?_ ?_
       rotate_left
       ·
        show Act.put _ (some 126) _ = _
        simp only [Act.put, List.setIfInBounds_toArray, List.set_cons_zero, List.set_cons_succ, i64_w, i32_w]
        rfl
       refine pure_ (i := 19) (N := some 7) (v := ?_) (a' := ?_) #[true, true, true, true, true, true, true, true, true, true, true, true, true, true, true, true, true, true, true, true] rfl rfl (any_of HT_.out (by kernel_rfl)) (fun _ _ _ h => h) (Or.inl ⟨by rfl, ?_⟩) ?_ ?_
       rotate_left
       ·
        intro w'
        go_simp
        with_reducible rfl
       rotate_left
       ·
        simp only [Act.put, List.setIfInBounds_toArray, List.set_cons_zero, List.set_cons_succ, i64_w, i32_w]
        rfl
       refine done_ (done_of HT_.out (by kernel_rfl)) ?_
       try go_wp2
       go_roundg (gk - 1)
       case measure => have := HN.out; have := p4.out; omega
       case rel =>
        have hN := HN.out
        have hlt := p4.out
        have hlen := HLEN.out
        refine ⟨n + 1, i + 1, ⟨by omega, by omega⟩, (by first | (congr 1; unfold wrap64; omega) | go_num), HB4, ⟨?_⟩⟩
        have q := HO4.out
        have f15 : (sched l1 n).length - 15 = j15 := by have := HJ15.out; omega
        have f2 : (sched l1 n).length - 2 = j2 := by have := HJ2.out; omega
        have f16 : (sched l1 n).length - 16 = j16 := by have := HJ16.out; omega
        have f7 : (sched l1 n).length - 7 = j7 := by have := HJ7.out; omega
        have e : nextW (sched l1 n) = Go.bits .and .i64 (wrap64 ((wrap64 ((wrap64 (X16 + Go.bits .xor .i64 (Go.bits .xor .i64 (sh_rot X15 7) (sh_rot X15 18)) (X15 / 8))) + X7)) + Go.bits .xor .i64 (Go.bits .xor .i64 (sh_rot X2 17) (sh_rot X2 19)) (X2 / 1024))) 4294967295 := by
         unfold nextW
         rw [f15, f2, f16, f7, ← HX15.out, ← HX2.out, ← HX16.out, ← HX7.out]
        rw [← e] at q
        exact q
      ·
       obtain ⟨rfl, rfl⟩ : n = 48 ∧ i = 64 := by have := HN.out; omega
       clear hlt hN hlen HN
       have C7 : Aside0 (Kd.C (Kd.int .i64) wr (some ⟨bk, 0, none⟩) 64 (sched l1 48)) := ⟨by have q := CW.out; rw [show (sched l1 48).length = 64 from by rw [sched_length]] at q; exact q⟩
       clear CW HO
       have H0 := Aside0.mk (Kd.C_below HR0.out HB.out)
       go_wp2_with (first | (go_at_call 72; refine (spec_l04K.calls _ _ specK).mono ?_; rintro e w1 ⟨vk, rfl, hk, hb1⟩; obtain ⟨gK, cK, ek, _⟩ := Kd.R_form hk (by decide); rw [rK_length] at ek; subst ek; have CK : Aside0 (Kd.C (Kd.int .i64) w1 (some ⟨gK, 0, none⟩) 64 rK) := ⟨(Kd.R_reads' hk).2.2⟩; have C7b := Aside0.mk (Kd.C_below C7.out hb1); have H0b := Aside0.mk (Kd.C_below H0.out hb1); have HB1 := Aside0.mk (below_step HB.out hb1); clear hk hb1 C7 H0 HB) | ((with_reducible refine gate_dst (N := 128) rfl ?_); refine Kd.R_lit (Kd.int .i64) (w0 := w1) w1.heap.size 3 ?hg (N := 128) ?hd (xs := ([] : List Int)) (inner := []) (ok := fun _ => True) (okp := fun _ => False) ?hr ?hp (fun _ hk => hk.elim) trivial (Below.refl _ _) (Nat.le_refl _) (by simp) ?_; (case hd => rfl); (case hg => rfl); (case hr => first | (go_simp; done) | (go_simp; rfl)); (case hp => exact (Reps.none _ _)); intro v128 wl ho hb hg_ hnew_; have HO128 := Aside0.mk ho; have HB128 := Aside0.mk hb; have H0c := Aside0.mk (Kd.C_below H0b.out hb); clear ho hb hg_ hnew_) | ((with_reducible refine gate_builtin (b := .append) (xs := #[.tmp 128, .tmp 129]) rfl ?_); at_builtin; refine Kd.R_append_rows (Kd.int .i64) (w0 := w1) w1.heap.size rfl (.tmp 128) (.tmp 129) 22 3 (.int .i64 0) 8 rfl Try.underlying22 info3 rfl (by decide) (by omega) v128 ([] : List Int) l0 _ _ _ (fun _ => True) (fun _ => False) rfl rfl ?aO ?aR (fun _ _ h => h) (fun _ h => h.elim) ?aF ?aB ?aS ?aL ?_; (case aO => exact HO128.out); (case aR => exact H0c.out); (case aF => exact fun _ _ => trivial); (case aB => exact HB128.out); (case aS => exact HB128.out.size); (case aL => decide); intro v130 wD ho hb hg_ hat; have CKd := Aside0.mk (Kd.C_below CK.out hb); have C7d := Aside0.mk (Kd.C_below C7b.out hb); have HBd := Aside0.mk (below_step HB1.out hb); obtain ⟨gv, cv, ev, _⟩ := Kd.R_form ho (by rw [show (([] : List Int) ++ l0).length = 8 from HL0.out]; decide); subst ev; have CV : Aside0 (Kd.C (Kd.int .i64) wD (some ⟨gv, 0, none⟩) 8 l0) := ⟨by have q := (Kd.R_reads' ho).2.2; rw [show (([] : List Int) ++ l0).length = 8 from HL0.out] at q; exact q⟩; clear ho hb hg_ hat HO128 HB128 H0c H0b HB1 C7b CK))
       first | rw [HL0.out] | rw [show (([] : List Int) ++ l0).length = 8 from HL0.out]
       go_loopg [15, 16] 64 (fun kq v15 v16 w' => ∃ (n gv cv : Nat), Aside0 (n + kq = 64) ∧ v16 = .int .i64 (n : Int) ∧ v15 = .slice (some ⟨gv, 0, none⟩) 8 cv ∧ Aside0 (Kd.C (Kd.int .i64) w' (some ⟨gv, 0, none⟩) 8 (runI l0 l1 n)) ∧ Aside0 (Kd.C (Kd.int .i64) w' (some ⟨gK, 0, none⟩) 64 rK) ∧ Aside0 (Kd.C (Kd.int .i64) w' (some ⟨bk, 0, none⟩) 64 (sched l1 48)) ∧ Aside0 (Below w.heap.size w w'))
       case atStart => exact ⟨0, gv, cv, ⟨rfl⟩, rfl, rfl, CV, CKd, C7d, HBd⟩
       case round =>
        clear CV CKd C7d HBd
        obtain ⟨n, gv, cv, HN, rfl, rfl, CV, CK, C7, HB⟩ := hrel
        by_cases hlt : n < 64
        ·
         have hd : decide ((n : Int) < 64) = true := decide_eq_true (by omega)
         obtain ⟨V, hV⟩ : ∃ V, V = runI l0 l1 n := ⟨_, rfl⟩
         have WV := Aside0.mk (fun i => rd_mem V (P := Wd) (by rw [hV]; exact runI_wd l0 l1 (fun x hx => HW.out x hx) n) ⟨by decide, by decide⟩ i)
         rw [← hV] at CV
         have HV := Aside0.mk hV
         clear hV
         have x0 : wr.cell? ⟨gv, 0, none⟩ = some (.int .i64 (rd V 0)) := by obtain ⟨ad_, e_, x_⟩ := Kd.at_int CV.out 0 (by decide) (by decide); obtain rfl := Option.some.inj e_; exact x_
         have x1 : wr.cell? ⟨gv, 1, none⟩ = some (.int .i64 (rd V 1)) := by obtain ⟨ad_, e_, x_⟩ := Kd.at_int CV.out 1 (by decide) (by decide); obtain rfl := Option.some.inj e_; exact x_
         have x2 : wr.cell? ⟨gv, 2, none⟩ = some (.int .i64 (rd V 2)) := by obtain ⟨ad_, e_, x_⟩ := Kd.at_int CV.out 2 (by decide) (by decide); obtain rfl := Option.some.inj e_; exact x_
         have x3 : wr.cell? ⟨gv, 3, none⟩ = some (.int .i64 (rd V 3)) := by obtain ⟨ad_, e_, x_⟩ := Kd.at_int CV.out 3 (by decide) (by decide); obtain rfl := Option.some.inj e_; exact x_
         have x4 : wr.cell? ⟨gv, 4, none⟩ = some (.int .i64 (rd V 4)) := by obtain ⟨ad_, e_, x_⟩ := Kd.at_int CV.out 4 (by decide) (by decide); obtain rfl := Option.some.inj e_; exact x_
         have x5 : wr.cell? ⟨gv, 5, none⟩ = some (.int .i64 (rd V 5)) := by obtain ⟨ad_, e_, x_⟩ := Kd.at_int CV.out 5 (by decide) (by decide); obtain rfl := Option.some.inj e_; exact x_
         have x6 : wr.cell? ⟨gv, 6, none⟩ = some (.int .i64 (rd V 6)) := by obtain ⟨ad_, e_, x_⟩ := Kd.at_int CV.out 6 (by decide) (by decide); obtain rfl := Option.some.inj e_; exact x_
         have x7 : wr.cell? ⟨gv, 7, none⟩ = some (.int .i64 (rd V 7)) := by obtain ⟨ad_, e_, x_⟩ := Kd.at_int CV.out 7 (by decide) (by decide); obtain rfl := Option.some.inj e_; exact x_
         obtain ⟨adk, ek, xk⟩ := Kd.at_int CK.out (n : Int) (by omega) (by omega)
         obtain rfl := Option.some.inj ek
         rw [Int.toNat_natCast, add_plain] at xk
         obtain ⟨adw, ew, xw⟩ := Kd.at_int C7.out (n : Int) (by omega) (by omega)
         obtain rfl := Option.some.inj ew
         rw [Int.toNat_natCast, add_plain] at xw
         obtain ⟨KW, hK⟩ : ∃ K, K = rd rK (n : Int) := ⟨_, rfl⟩
         obtain ⟨X, hX⟩ : ∃ X, X = rd (sched l1 48) (n : Int) := ⟨_, rfl⟩
         rw [← hK] at xk
         rw [← hX] at xw
         have HKK := Aside0.mk hK
         have HX := Aside0.mk hX
         have p4 : ((n : Int) < 64) = True := eq_true (by omega)
         have p5 : (n < 64) = True := eq_true (by omega)
         clear hK hX hlt ek ew
         go_wp2
         go_quiet ((go_at_call 71; exact Calls.quiet_of (turn2_ev _ _ _ (by decide) (by decide))))
         have CVn := Aside0.mk (Kd.C_drewN CV.out nq)
         have CKn := Aside0.mk (Kd.C_drewN CK.out nq)
         have C7n := Aside0.mk (Kd.C_drewN C7.out nq)
         have HBn : Aside0 (Below w.heap.size w (wr.drewN nq)) := ⟨by apply pw_below_drewN; exact HB.out⟩
         clear CV CK C7 HB x0 x1 x2 x3 x4 x5 x6 x7 xk xw
         generalize wr.drewN nq = w3 at CVn CKn C7n HBn ⊢
         have CV := CVn
         have CK := CKn
         have C7 := C7n
         have HB := HBn
         clear CVn CKn C7n HBn
         have x0 : w3.cell? ⟨gv, 0, none⟩ = some (.int .i64 (rd V 0)) := by obtain ⟨ad_, e_, x_⟩ := Kd.at_int CV.out 0 (by decide) (by decide); obtain rfl := Option.some.inj e_; exact x_
         have x1 : w3.cell? ⟨gv, 1, none⟩ = some (.int .i64 (rd V 1)) := by obtain ⟨ad_, e_, x_⟩ := Kd.at_int CV.out 1 (by decide) (by decide); obtain rfl := Option.some.inj e_; exact x_
         have x2 : w3.cell? ⟨gv, 2, none⟩ = some (.int .i64 (rd V 2)) := by obtain ⟨ad_, e_, x_⟩ := Kd.at_int CV.out 2 (by decide) (by decide); obtain rfl := Option.some.inj e_; exact x_
         have x3 : w3.cell? ⟨gv, 3, none⟩ = some (.int .i64 (rd V 3)) := by obtain ⟨ad_, e_, x_⟩ := Kd.at_int CV.out 3 (by decide) (by decide); obtain rfl := Option.some.inj e_; exact x_
         have x4 : w3.cell? ⟨gv, 4, none⟩ = some (.int .i64 (rd V 4)) := by obtain ⟨ad_, e_, x_⟩ := Kd.at_int CV.out 4 (by decide) (by decide); obtain rfl := Option.some.inj e_; exact x_
         have x5 : w3.cell? ⟨gv, 5, none⟩ = some (.int .i64 (rd V 5)) := by obtain ⟨ad_, e_, x_⟩ := Kd.at_int CV.out 5 (by decide) (by decide); obtain rfl := Option.some.inj e_; exact x_
         have x6 : w3.cell? ⟨gv, 6, none⟩ = some (.int .i64 (rd V 6)) := by obtain ⟨ad_, e_, x_⟩ := Kd.at_int CV.out 6 (by decide) (by decide); obtain rfl := Option.some.inj e_; exact x_
         have x7 : w3.cell? ⟨gv, 7, none⟩ = some (.int .i64 (rd V 7)) := by obtain ⟨ad_, e_, x_⟩ := Kd.at_int CV.out 7 (by decide) (by decide); obtain rfl := Option.some.inj e_; exact x_
         go_wp2
         go_quiet ((go_at_call 71; exact Calls.quiet_of (turn2_ev _ _ _ (by decide) (by decide))))
         have CVn := Aside0.mk (Kd.C_drewN CV.out nq)
         have CKn := Aside0.mk (Kd.C_drewN CK.out nq)
         have C7n := Aside0.mk (Kd.C_drewN C7.out nq)
         have HBn : Aside0 (Below w.heap.size w (w3.drewN nq)) := ⟨by apply pw_below_drewN; exact HB.out⟩
         clear CV CK C7 HB x0 x1 x2 x3 x4 x5 x6 x7
         generalize w3.drewN nq = w4 at CVn CKn C7n HBn ⊢
         have CV := CVn
         have CK := CKn
         have C7 := C7n
         have HB := HBn
         clear CVn CKn C7n HBn
         have x0 : w4.cell? ⟨gv, 0, none⟩ = some (.int .i64 (rd V 0)) := by obtain ⟨ad_, e_, x_⟩ := Kd.at_int CV.out 0 (by decide) (by decide); obtain rfl := Option.some.inj e_; exact x_
         have x1 : w4.cell? ⟨gv, 1, none⟩ = some (.int .i64 (rd V 1)) := by obtain ⟨ad_, e_, x_⟩ := Kd.at_int CV.out 1 (by decide) (by decide); obtain rfl := Option.some.inj e_; exact x_
         have x2 : w4.cell? ⟨gv, 2, none⟩ = some (.int .i64 (rd V 2)) := by obtain ⟨ad_, e_, x_⟩ := Kd.at_int CV.out 2 (by decide) (by decide); obtain rfl := Option.some.inj e_; exact x_
         have x3 : w4.cell? ⟨gv, 3, none⟩ = some (.int .i64 (rd V 3)) := by obtain ⟨ad_, e_, x_⟩ := Kd.at_int CV.out 3 (by decide) (by decide); obtain rfl := Option.some.inj e_; exact x_
         have x4 : w4.cell? ⟨gv, 4, none⟩ = some (.int .i64 (rd V 4)) := by obtain ⟨ad_, e_, x_⟩ := Kd.at_int CV.out 4 (by decide) (by decide); obtain rfl := Option.some.inj e_; exact x_
         have x5 : w4.cell? ⟨gv, 5, none⟩ = some (.int .i64 (rd V 5)) := by obtain ⟨ad_, e_, x_⟩ := Kd.at_int CV.out 5 (by decide) (by decide); obtain rfl := Option.some.inj e_; exact x_
         have x6 : w4.cell? ⟨gv, 6, none⟩ = some (.int .i64 (rd V 6)) := by obtain ⟨ad_, e_, x_⟩ := Kd.at_int CV.out 6 (by decide) (by decide); obtain rfl := Option.some.inj e_; exact x_
         have x7 : w4.cell? ⟨gv, 7, none⟩ = some (.int .i64 (rd V 7)) := by obtain ⟨ad_, e_, x_⟩ := Kd.at_int CV.out 7 (by decide) (by decide); obtain rfl := Option.some.inj e_; exact x_
         go_wp2
         go_still_tail 28, (by kernel_rfl)
         change wpList _ _ _ _ _ w4.drew
         have CKn := Aside0.mk (Kd.C_drew CK.out)
         have C7n := Aside0.mk (Kd.C_drew C7.out)
         have HBn := Aside0.mk (below_drew1 HB.out)
         clear CV CK C7 HB x0 x1 x2 x3 x4 x5 x6 x7
         generalize w4.drew = w5 at CKn C7n HBn ⊢
         (with_reducible refine gate_dst (N := 232) rfl ?_)
         refine Kd.R_lit (Kd.int .i64) (w0 := w5) w5.heap.size 3 ?hg (N := 232) ?hd (xs := stepX V KW X) (inner := nums .i64 (stepX V KW X)) (ok := fun _ => True) (okp := fun _ => False) ?hr ?hp (fun _ hk => hk.elim) trivial (Below.refl _ _) (Nat.le_refl _) (by simp [stepX]) ?_
         (case hd => rfl)
         (case hg => rfl)
         (case hr => go_simp; simp only [i64_w]; exact ⟨rfl, rfl⟩)
         (case hp => exact Kd.reps_scalar (enc := Value.int .i64) _)
         intro v232 w6 ho hb hg_ hnew_
         obtain ⟨a6, c6, e6, _⟩ := Kd.R_form ho (by simp [stepX])
         subst e6
         have CV6 : Aside0 (Kd.C (Kd.int .i64) w6 (some ⟨a6, 0, none⟩) 8 (stepX V KW X)) := ⟨(Kd.R_reads' ho).2.2⟩
         have CK6 := Aside0.mk (Kd.C_below CKn.out hb)
         have C76 := Aside0.mk (Kd.C_below C7n.out hb)
         have HB6 := Aside0.mk (below_step HBn.out hb)
         clear ho hb hg_ hnew_ CKn C7n HBn
         go_wp2
         go_roundg (gk - 1)
         case measure => have := HN.out; have := of_eq_true p5; omega
         case rel =>
          have hN := HN.out
          have hlt := of_eq_true p5
          have e : runI l0 l1 (n + 1) = stepX V KW X := by rw [stepX_eq V KW X WV.out, HV.out, HKK.out, HX.out]; rfl
          refine ⟨n + 1, a6, c6, ⟨by omega⟩, (by first | (congr 1; unfold wrap64; omega) | go_num), rfl, ⟨?_⟩, CK6, C76, HB6⟩
          rw [e]
          exact CV6.out
        ·
         obtain rfl : n = 64 := by have := HN.out; omega
         clear hlt HN CK C7
         generalize wr = we at CV HB ⊢
         have H0 := Aside0.mk (Kd.C_below HR0.out HB.out)
         go_wp2_with (first | ((with_reducible refine gate_dst (N := 233) rfl ?_); refine Kd.R_lit (Kd.int .i64) (w0 := we) we.heap.size 3 ?hg (N := 233) ?hd (xs := ([] : List Int)) (inner := []) (ok := fun _ => True) (okp := fun _ => False) ?hr ?hp (fun _ hk => hk.elim) trivial (Below.refl _ _) (Nat.le_refl _) (by simp) ?_; (case hd => rfl); (case hg => rfl); (case hr => first | (go_simp; done) | (go_simp; rfl)); (case hp => exact (Reps.none _ _)); intro v233 wl ho hb hg_ hnew_; have HOl := Aside0.mk ho; have HBl := Aside0.mk hb; clear hnew_ hg_ hb ho))
         go_loopg [21, 236] 8 (fun kq v21 v236 w' => ∃ n : Nat, Aside0 (n + kq = 8) ∧ v236 = .int .i64 (n : Int) ∧ Aside0 (Below we.heap.size we w') ∧ Aside0 (Kd.R (Kd.int .i64) 3 w' we.heap.size (fun _ => True) v21 (sumI l0 (runI l0 l1 64) n)))
         case atStart => exact ⟨0, ⟨rfl⟩, rfl, HBl, HOl⟩
         case round =>
          clear HBl HOl
          obtain ⟨n, HN, rfl, HE, HO⟩ := hrel
          by_cases hlt : n < 8
          ·
           have hd : decide ((n : Int) < 8) = true := decide_eq_true (by omega)
           go_wp2
           have C0n := Kd.C_below H0.out HE.out
           have CVn := Kd.C_below CV.out HE.out
           obtain ⟨adh, eh, xh⟩ := Kd.at_int C0n (n : Int) (by omega) (by omega)
           subst eh
           obtain ⟨adv, ev, xv⟩ := Kd.at_int CVn (n : Int) (by omega) (by omega)
           obtain rfl := Option.some.inj ev
           rw [Int.toNat_natCast] at xh xv
           rw [add_plain] at xv
           obtain ⟨X, hX⟩ : ∃ X, X = rd l0 (n : Int) := ⟨_, rfl⟩
           obtain ⟨Y, hY⟩ : ∃ Y, Y = rd (runI l0 l1 64) (n : Int) := ⟨_, rfl⟩
           rw [← hX] at xh
           rw [← hY] at xv
           have HX := Aside0.mk hX
           have HY := Aside0.mk hY
           have p4 : ((n : Int) < 8) = True := eq_true (by omega)
           have p5 : (n < 8) = True := eq_true (by omega)
           have HE2 := Aside0.mk (below_drew1 HE.out)
           have HO2 := Aside0.mk (Kd.R_drew HO.out)
           clear hX hY hlt hd ev C0n CVn HE HO
           refine start_ (n := 14) (S := fun w' => w'.cell? (adh.add n) = some (.int .i64 X) ∧ w'.cell? ⟨gv, n, none⟩ = some (.int .i64 Y)) (ds := [11, 12]) #[false, false, false, false, false, false, false, false, false, false, false, false, false, false] (by kernel_rfl) rfl rfl ⟨xh, xv⟩ (fun hHeld => ?_); refine with_tabW spec_tab36 spec_bits36 (fun HT_ HW_ => ?_)
           clear xh xv
           generalize wr.drew = w2 at HE2 HO2 hHeld ⊢
           refine pure_ (i := 0) (N := some 239) (v := ?_) (a' := ?_) #[true, false, false, false, false, false, false, false, false, false, false, false, false, false] rfl rfl (any_of HT_.out (by kernel_rfl)) (fun _ _ _ h => h) (Or.inl ⟨by rfl, ?_⟩) ?_ ?_
           rotate_left
           ·
            intro w'
            go_simp
            with_reducible rfl
           rotate_left
           ·
            simp only [Act.put, List.setIfInBounds_toArray, List.set_cons_zero, List.set_cons_succ, i64_w, i32_w]
            rfl
           refine pure_ (i := 1) (N := some 240) (v := ?_) (a' := ?_) #[true, true, false, false, false, false, false, false, false, false, false, false, false, false] rfl rfl (any_of HT_.out (by kernel_rfl)) (fun _ _ _ h => h) (Or.inl ⟨by rfl, ?_⟩) ?_ ?_
           rotate_left
           ·
            intro w'
            go_simp
            with_reducible rfl
           rotate_left
           ·
            simp only [Act.put, List.setIfInBounds_toArray, List.set_cons_zero, List.set_cons_succ, i64_w, i32_w]
            rfl
           refine pure_ (i := 2) (N := some 241) (v := ?_) (a' := ?_) #[true, true, true, false, false, false, false, false, false, false, false, false, false, false] rfl rfl (any_of HT_.out (by kernel_rfl)) (fun _ _ _ h => h) (Or.inl ⟨by rfl, ?_⟩) ?_ ?_
           rotate_left
           ·
            intro w'
            go_simp
            with_reducible rfl
           rotate_left
           ·
            simp only [Act.put, List.setIfInBounds_toArray, List.set_cons_zero, List.set_cons_succ, i64_w, i32_w]
            rfl
           refine pure_ (i := 3) (N := some 242) (v := ?_) (a' := ?_) #[true, true, true, true, false, false, false, false, false, false, false, false, false, false] rfl rfl (any_of HT_.out (by kernel_rfl)) (fun _ _ _ h => h) (Or.inl ⟨by rfl, ?_⟩) ?_ ?_
           rotate_left
           ·
            intro w'
            go_simp
            with_reducible rfl
           rotate_left
           ·
            simp only [Act.put, List.setIfInBounds_toArray, List.set_cons_zero, List.set_cons_succ, i64_w, i32_w]
            rfl
           refine pure_ (i := 5) (N := some 244) (v := ?_) (a' := ?_) #[true, true, true, true, false, true, false, false, false, false, false, false, false, false] rfl rfl (any_of HT_.out (by kernel_rfl)) (fun _ _ _ h => h) (Or.inl ⟨by rfl, ?_⟩) ?_ ?_
           rotate_left
           ·
            intro w'
            go_simp
            with_reducible rfl
           rotate_left
           ·
            simp only [Act.put, List.setIfInBounds_toArray, List.set_cons_zero, List.set_cons_succ, i64_w, i32_w]
            rfl
           refine pure_ (i := 6) (N := some 245) (v := ?_) (a' := ?_) #[true, true, true, true, false, true, true, false, false, false, false, false, false, false] rfl rfl (any_of HT_.out (by kernel_rfl)) (fun _ _ _ h => h) (Or.inl ⟨by rfl, ?_⟩) ?_ ?_
           rotate_left
           ·
            intro w'
            go_simp
            with_reducible rfl
           rotate_left
           ·
            simp only [Act.put, List.setIfInBounds_toArray, List.set_cons_zero, List.set_cons_succ, i64_w, i32_w]
            rfl
           refine pure_ (i := 7) (N := some 246) (v := ?_) (a' := ?_) #[true, true, true, true, false, true, true, true, false, false, false, false, false, false] rfl rfl (any_of HT_.out (by kernel_rfl)) (fun _ _ _ h => h) (Or.inl ⟨by rfl, ?_⟩) ?_ ?_
           rotate_left
           ·
            intro w'
            go_simp
            with_reducible rfl
           rotate_left
           ·
            simp only [Act.put, List.setIfInBounds_toArray, List.set_cons_zero, List.set_cons_succ, i64_w, i32_w]
            rfl
           refine take_ (i := 4) (N := some 243) (v := ?_) (a' := ?_) #[true, true, true, true, true, true, true, true, false, false, false, false, false, false] rfl rfl (take_ofW HT_.out HW_.out (by kernel_rfl)) (fun _ _ _ h => h) (Or.inl ⟨by rfl, ?_⟩) hHeld ?_ ?_
           rotate_left
           ·
            rintro w' ⟨s0, s1⟩
            go_simp
            with_reducible rfl
           rotate_left
           ·
            simp only [Act.put, List.setIfInBounds_toArray, List.set_cons_zero, List.set_cons_succ, i64_w, i32_w]
            rfl
           refine take_ (i := 8) (N := some 247) (v := ?_) (a' := ?_) #[true, true, true, true, true, true, true, true, true, false, false, false, false, false] rfl rfl (take_ofW HT_.out HW_.out (by kernel_rfl)) (fun _ _ _ h => h) (Or.inl ⟨by rfl, ?_⟩) hHeld ?_ ?_
           rotate_left
           ·
            rintro w' ⟨s0, s1⟩
            go_simp
            with_reducible rfl
           rotate_left
           ·
            simp only [Act.put, List.setIfInBounds_toArray, List.set_cons_zero, List.set_cons_succ, i64_w, i32_w]
            rfl
           refine pure_ (i := 9) (N := some 248) (v := ?_) (a' := ?_) #[true, true, true, true, true, true, true, true, true, true, false, false, false, false] rfl rfl (any_of HT_.out (by kernel_rfl)) (fun _ _ _ h => h) (Or.inl ⟨by rfl, ?_⟩) ?_ ?_
           rotate_left
           ·
            intro w'
            go_simp
            with_reducible rfl
           rotate_left
           ·
            simp only [Act.put, List.setIfInBounds_toArray, List.set_cons_zero, List.set_cons_succ, i64_w, i32_w]
            rfl
           refine pure_ (i := 10) (N := some 249) (v := ?_) (a' := ?_) #[true, true, true, true, true, true, true, true, true, true, true, false, false, false] rfl rfl (any_of HT_.out (by kernel_rfl)) (fun _ _ _ h => h) (Or.inl ⟨by rfl, ?_⟩) ?_ ?_
           rotate_left
           ·
            intro w'
            go_simp
            with_reducible rfl
           rotate_left
           ·
            simp only [Act.put, List.setIfInBounds_toArray, List.set_cons_zero, List.set_cons_succ, i64_w, i32_w]
            rfl
           refine last_ (i := 11) (N := some 250) #[true, true, true, true, true, true, true, true, true, true, true, true, false, false] rfl rfl (one_of HT_.out (by kernel_rfl)) (by decide) (fun K hK => ?_)
           refine value_ (w1 := ?_) (v := ?_) (by rfl) rfl ?_ ?_
           rotate_left 2
           ·
            go_simp
            constructor
            ·
             rfl
            ·
             rfl
           refine hK.out _ _ ?_
           clear hK K
           refine norm_ (a' := ?_) ?_ ?_
           rotate_left
           ·
            show Act.put _ (some 250) _ = _
            simp only [Act.put, List.setIfInBounds_toArray, List.set_cons_zero, List.set_cons_succ, i64_w, i32_w]
            rfl
           refine last_ (i := 12) (N := some 251) #[true, true, true, true, true, true, true, true, true, true, true, true, true, false] rfl rfl (one_of HT_.out (by kernel_rfl)) (by decide) (fun K hK => ?_)
           refine Kd.R_append_step (Kd.int .i64) (w0 := we) we.heap.size (by rfl) (.tmp 239) (.tmp 250) 22 3 (.int .i64 0) 8 rfl Try.underlying22 info3 rfl (by decide) (by omega) u21 (sumI l0 (runI l0 l1 64) n) (Go.bits .and .i64 (wrap64 (X + Y)) 4294967295) [.int .i64 (Go.bits .and .i64 (wrap64 (X + Y)) 4294967295)] (fun _ => True) (fun _ => False) rfl rfl ?aP (fun _ hk => hk.elim) ?aF ?aO ?aB ?aS ?aL ?_
           (case aP => exact rfl)
           (case aF => exact fun _ _ => trivial)
           (case aO => exact HO2.out)
           (case aB => exact HE2.out)
           (case aS => exact HE2.out.size)
           (case aL => rw [sumI_length]; have := of_eq_true p5; omega)
           intro v251 w8 ho hb hg_ hat
           have HE3 := Aside0.mk hb
           have HO3 := Aside0.mk ho
           clear ho hb hg_ hat HE2 HO2
           refine hK.out _ _ ?_
           clear hK K
           refine norm_ (a' := ?_) ?_ ?_
           rotate_left
           ·
            show Act.put _ (some 251) _ = _
            simp only [Act.put, List.setIfInBounds_toArray, List.set_cons_zero, List.set_cons_succ, i64_w, i32_w]
            rfl
           refine pure_ (i := 13) (N := some 21) (v := ?_) (a' := ?_) #[true, true, true, true, true, true, true, true, true, true, true, true, true, true] rfl rfl (any_of HT_.out (by kernel_rfl)) (fun _ _ _ h => h) (Or.inl ⟨by rfl, ?_⟩) ?_ ?_
           rotate_left
           ·
            intro w'
            go_simp
            with_reducible rfl
           rotate_left
           ·
            simp only [Act.put, List.setIfInBounds_toArray, List.set_cons_zero, List.set_cons_succ, i64_w, i32_w]
            rfl
           refine done_ (done_of HT_.out (by kernel_rfl)) ?_
           try go_wp2
           go_roundg (gk - 1)
           case measure => have := HN.out; have := of_eq_true p5; omega
           case rel =>
            have hN := HN.out
            have hlt := of_eq_true p5
            refine ⟨n + 1, ⟨by omega⟩, (by first | (congr 1; unfold wrap64; omega) | go_num), HE3, ⟨?_⟩⟩
            have q := HO3.out
            rw [HX.out, HY.out, ← sumI_succ] at q
            exact q
          ·
           obtain rfl : n = 8 := by have := HN.out; omega
           clear hlt
           go_wp2
           go_ret
           exact ⟨_, rfl, Kd.R_lower HO.out HB.out.size, below_step HB.out HE.out⟩
end Go.Proofs.Ytjfhbmbiegccnaa.ShaBase
