/- The program's function answers what the reference's answers, for all arguments: the printed law comes to true. Conditions: those of the printed statement alone. -/
import Derived.Test.YthddmjogfolafaaPFnExactGetTextx3
import Derived.Test.YthddmjogfolafaaLib
import Derived.Test.YthddmjogfolafaaLibNum
set_option linter.unusedVariables false
set_option linter.unusedSimpArgs false
set_option maxRecDepth 4000
namespace Go.Proofs.Ythddmjogfolafaa.Pure
open Go.RowKit Go.Proofs.Ythddmjogfolafaa.PFnExactGetText Go.Proofs.YthddmjogfolafaaW.PrintWords Go.Proofs.YthddmjogfolafaaW.PrintLast Go.Proofs.YthddmjogfolafaaW.PrintMore Go.Proofs.Ythddmjogfolafaa.Lib

/-! ### laws_toByteS -/
theorem toByteS_l0 (l : List Int) (hl : l.length ≤ 1048576) : ∀ (d i : Nat) (ys : List Int), l.length - i = d → i ≤ l.length → ys.length = l.length → ys.take i = l.take i → Ev (fun k => laws_toByteS.l0 k l ys (i : Int)) l := by
  intro d
  induction d with
  | zero =>
    intro i ys hd hi hy ht
    refine Ev.step (fun _ => rfl) (ev_neg (by omega) (ev_some ?_))
    rw [List.take_of_length_le (by omega), List.take_of_length_le (by omega)] at ht
    exact ht
  | succ d ih =>
    intro i ys hd hi hy ht
    refine Ev.step (fun _ => rfl) (ev_pos (by omega) (ev_pos (by omega) (ev_pos (by omega) ?_)))
    rw [wrap_succ (by omega), rd_at (show i < l.length by omega), Int.toNat_natCast]
    exact ih (i + 1) _ (by omega) (by omega) (by simpa using hy) (set_take_succ ys l i (by omega) (by omega) ht)
theorem toByteS_ev (l : List Int) (hl : l.length ≤ 1048576) : Ev (fun k => laws_toByteS.f k l) l := by
  unfold laws_toByteS.f
  refine ev_pos (by omega) (ev_pos (by omega) ?_)
  rw [Int.toNat_natCast]
  exact toByteS_l0 l hl _ 0 _ rfl (by omega) (by simp) (by simp)

/-! ### laws_eqByteS -/
theorem eqByteS_l0 (a b : List Int) (hl : a.length ≤ 9000000000000000000) (hab : a.length = b.length) : ∀ (d i : Nat), a.length - i = d → i ≤ a.length → a.take i = b.take i → Ev (fun k => laws_eqByteS.l0 k a b (i : Int)) (decide (a = b)) := by
  intro d
  induction d with
  | zero =>
    intro i hd hi ht
    refine Ev.step (fun _ => rfl) (ev_neg (by omega) (ev_some ?_))
    rw [List.take_of_length_le (by omega), List.take_of_length_le (by omega)] at ht
    simp [ht]
  | succ d ih =>
    intro i hd hi ht
    refine Ev.step (fun _ => rfl) (ev_pos (by omega) (ev_pos (by omega) (ev_pos (by omega) ?_)))
    have ha : i < a.length := by omega
    have hb : i < b.length := by omega
    rw [rd_at ha, rd_at hb]
    by_cases e : a[i] = b[i]
    · refine ev_pos e ?_
      rw [wrap_succ (by omega)]
      exact ih (i + 1) (by omega) (by omega) (by rw [List.take_succ_eq_append_getElem ha, List.take_succ_eq_append_getElem hb, ht, e])
    · refine ev_neg e (ev_some ?_)
      have : a ≠ b := fun h => e (by subst h; rfl)
      simp [this]
theorem eqByteS_ev (a b : List Int) (hl : a.length ≤ 9000000000000000000) : Ev (fun k => laws_eqByteS.f k a b) (decide (a = b)) := by
  unfold laws_eqByteS.f
  by_cases h : a.length = b.length
  · refine ev_pos (by omega) ?_
    exact eqByteS_l0 a b hl h _ 0 rfl (by omega) (by simp)
  · refine ev_neg (by omega) (ev_some ?_)
    have : a ≠ b := fun e => h (by rw [e])
    simp [this]
theorem eqByteS_same (a : List Int) (hl : a.length ≤ 9000000000000000000) : Ev (fun k => laws_eqByteS.f k a a) true := ev_eq (by simp) (eqByteS_ev a a hl)

/-! ### laws_markByteS -/
theorem markByteS_l0 (a : Int) (n : Nat) (h0 : 0 ≤ a) (h1 : a + n ≤ 9000000000000000000) : ∀ (d i : Nat) (ys : List Int), n - i = d → i ≤ n → ys.length = n → ys.take i = (marks a n).take i → Ev (fun k => laws_markByteS.l0 k ys (a + (i : Int)) (i : Int)) (a + (n : Int), marks a n) := by
  intro d
  induction d with
  | zero =>
    intro i ys hd hi hy ht
    refine Ev.step (fun _ => rfl) (ev_neg (by omega) (ev_some ?_))
    rw [List.take_of_length_le (by omega), List.take_of_length_le (by rw [marks_length]; omega)] at ht
    rw [ht, show i = n by omega]
  | succ d ih =>
    intro i ys hd hi hy ht
    refine Ev.step (fun _ => rfl) (ev_pos (by omega) (ev_pos (by omega) ?_))
    have hm : i < (marks a n).length := by rw [marks_length]; omega
    have e : (a + (i : Int)) % 256 = (marks a n)[i] := by rw [← rd_at hm, marks_at a n (by omega)]
    rw [wrap_succ (by omega), wrap_in (by omega) (by omega), show a + (i : Int) + 1 = a + ((i + 1 : Nat) : Int) by omega, e, Int.toNat_natCast]
    exact ih (i + 1) _ (by omega) (by omega) (by simpa using hy) (set_take_succ ys (marks a n) i (by omega) hm ht)
theorem markByteS_ev (l : List Int) (a : Int) (h0 : 0 ≤ a) (h1 : a + l.length ≤ 9000000000000000000) : Ev (fun k => laws_markByteS.f k l a) (a + (l.length : Int), marks a l.length) := by
  unfold laws_markByteS.f
  have := markByteS_l0 a l.length h0 h1 _ 0 l rfl (by omega) rfl (by simp)
  simpa using this

/-! ### laws_heldByteS -/
theorem heldByteS_l0 (a : Int) (n : Nat) (h0 : 0 ≤ a) (h1 : a + n ≤ 9000000000000000000) : ∀ (d i : Nat), n - i = d → i ≤ n → Ev (fun k => laws_heldByteS.l0 k (marks a n) (a + (i : Int)) (i : Int)) (a + (n : Int)) := by
  intro d
  induction d with
  | zero =>
    intro i hd hi
    refine Ev.step (fun _ => rfl) (ev_neg (by rw [marks_length]; omega) (ev_some ?_))
    rw [show i = n by omega]
  | succ d ih =>
    intro i hd hi
    refine Ev.step (fun _ => rfl) (ev_pos (by rw [marks_length]; omega) (ev_pos (by omega) (ev_pos (marks_at a n (by omega)) ?_)))
    rw [wrap_succ (by omega), wrap_in (by omega) (by omega), show a + (i : Int) + 1 = a + ((i + 1 : Nat) : Int) by omega]
    exact ih (i + 1) (by omega) (by omega)
theorem heldByteS_ev (a : Int) (n : Nat) (h0 : 0 ≤ a) (h1 : a + n ≤ 9000000000000000000) : Ev (fun k => laws_heldByteS.f k (marks a n) a) (a + (n : Int)) := by
  unfold laws_heldByteS.f
  have := heldByteS_l0 a n h0 h1 _ 0 rfl (by omega)
  simpa using this

/-! ### impl_GetVar -/
/-- What is read of a number from place a + i on, n being there already. -/
def readVar (l : List Int) (a : Nat) : Nat → Nat → Int → Int × Int × Int
  | 0, _, _ => (0, 0, 2)
  | d + 1, i, n =>
    if h : a + i < l.length then
      if (i > 0 ∧ l[a + i] = 0) ∨ (i = 8 ∧ l[a + i] ≥ 128) then (0, 0, 2)
      else if l[a + i] < 128 then (if n + l[a + i] * 2 ^ (7 * i) > 1152921504606846975 then (0, 0, 2) else (n + l[a + i] * 2 ^ (7 * i), (a : Int) + (i : Int) + 1, 0))
      else readVar l a d (i + 1) (n + l[a + i] % 128 * 2 ^ (7 * i))
    else (0, 0, 1)
def getVar (l : List Int) (a : Int) : Int × Int × Int := if 0 ≤ a ∧ a ≤ (l.length : Int) then readVar l a.toNat 9 0 0 else (0, 0, 1)
theorem gv_next {n P Q : Int} (n0 : 0 ≤ n) (n1 : n < P) (q0 : 0 ≤ Q) (q1 : Q ≤ 127 * P) : 0 ≤ n + Q ∧ n + Q < 128 * P := by omega
theorem pow7 : ∀ i : Nat, i ≤ 8 → (0 : Int) < 2 ^ (7 * i) ∧ (2 : Int) ^ (7 * i) ≤ 72057594037927936 ∧ (2 : Int) ^ (7 * (i + 1)) = 128 * 2 ^ (7 * i) := by
  intro i hi
  have h : ∀ j : Nat, j < 9 → (0 : Int) < 2 ^ (7 * j) ∧ (2 : Int) ^ (7 * j) ≤ 72057594037927936 := by decide +kernel
  obtain ⟨h0, h1⟩ := h i (by omega)
  refine ⟨h0, h1, ?_⟩
  rw [show 7 * (i + 1) = 7 + 7 * i by omega, Int.pow_add]
  rfl
theorem spec_getVar_l0 (l : List Int) (a : Nat) (hb : Bytes l) (hl : l.length ≤ 4194304) (ha : a ≤ l.length) : ∀ (d i : Nat) (n : Int), 9 - i = d → i ≤ 9 → 0 ≤ n → n < 2 ^ (7 * i) → Ev (fun k => spec_GetVar.l0 k l (a : Int) n (2 ^ (7 * i)) (i : Int)) (readVar l a d i n) := by
  intro d
  induction d with
  | zero =>
    intro i n hd hi n0 n1
    refine Ev.step (f := fun _ => some (0, 0, 2)) (fun k => ?_) (Ev.now _)
    simp only [spec_GetVar.l0]
    rw [if_neg (by omega)]
  | succ d ih =>
    intro i n hd hi n0 n1
    have hd9 : 9 - (i + 1) = d := by omega
    have hi9 : i + 1 ≤ 9 := by omega
    obtain ⟨p0, p1, p2⟩ := pow7 i (by omega)
    have wa : wrap64 ((a : Int) + (i : Int)) = ((a + i : Nat) : Int) := by rw [wrap_in (by omega) (by omega)]; omega
    unfold readVar
    by_cases h : a + i < l.length
    · have hv := hb l[a + i] (List.getElem_mem h)
      have hrd := rd_at h
      have wx : wrap64 l[a + i] = l[a + i] := wrap_in (by omega) (by omega)
      rw [dif_pos h]
      -- what comes behind the test
      have behind : ∀ b : Bool, b = decide ((i > 0 ∧ l[a + i] = 0) ∨ (i = 8 ∧ l[a + i] ≥ 128)) → Ev (fun k => spec_GetVar.j2 k l (a : Int) n (2 ^ (7 * i)) (i : Int) l[a + i] b) (if (i > 0 ∧ l[a + i] = 0) ∨ (i = 8 ∧ l[a + i] ≥ 128) then (0, 0, 2) else if l[a + i] < 128 then (if n + l[a + i] * 2 ^ (7 * i) > 1152921504606846975 then (0, 0, 2) else (n + l[a + i] * 2 ^ (7 * i), (a : Int) + (i : Int) + 1, 0)) else readVar l a d (i + 1) (n + l[a + i] % 128 * 2 ^ (7 * i))) := by
        intro b hbb
        by_cases hc : (i > 0 ∧ l[a + i] = 0) ∨ (i = 8 ∧ l[a + i] ≥ 128)
        · rw [decide_eq_true hc] at hbb
          subst hbb
          rw [if_pos hc]
          exact Ev.step (f := fun _ => some (0, 0, 2)) (fun _ => by simp only [spec_GetVar.j2, if_true]) (Ev.now _)
        · rw [decide_eq_false hc] at hbb
          subst hbb
          rw [if_neg hc]
          have q0 : 0 ≤ l[a + i] % 128 * 2 ^ (7 * i) := Int.mul_nonneg (by omega) (by omega)
          have q1 : l[a + i] % 128 * 2 ^ (7 * i) ≤ 127 * 2 ^ (7 * i) := Int.mul_le_mul_of_nonneg_right (by omega) (by omega)
          have m1 : Int.tmod l[a + i] 128 = l[a + i] % 128 := Int.tmod_eq_emod_of_nonneg (by omega)
          have w1 : wrap64 (l[a + i] % 128 * 2 ^ (7 * i)) = l[a + i] % 128 * 2 ^ (7 * i) := wrap_in (by omega) (by omega)
          have w2 : wrap64 (n + l[a + i] % 128 * 2 ^ (7 * i)) = n + l[a + i] % 128 * 2 ^ (7 * i) := wrap_in (by omega) (by omega)
          by_cases hs : l[a + i] < 128
          · rw [if_pos hs]
            have e : l[a + i] % 128 = l[a + i] := by omega
            rw [e] at m1 w1 w2
            have w3 : wrap64 (((a + i : Nat) : Int) + 1) = (a : Int) + (i : Int) + 1 := by rw [wrap_in (by omega) (by omega)]; omega
            by_cases hg : n + l[a + i] * 2 ^ (7 * i) > 1152921504606846975
            · rw [if_pos hg]
              refine Ev.step (f := fun _ => some (0, 0, 2)) (fun _ => ?_) (Ev.now _)
              simp only [spec_GetVar.j2, Bool.false_eq_true, if_false, if_pos hs, m1, w1, w2, if_pos hg]
            · rw [if_neg hg]
              refine Ev.step (f := fun _ => some _) (fun _ => ?_) (Ev.now _)
              simp only [spec_GetVar.j2, Bool.false_eq_true, if_false, if_pos hs, m1, w1, w2, if_neg hg, wa, w3]
          · rw [if_neg hs]
            have i7 : i < 8 := by omega
            have w4 : wrap64 ((2 : Int) ^ (7 * i) * 128) = 2 ^ (7 * (i + 1)) := by
              have := (pow7 (i + 1) (by omega)).2.1
              rw [wrap_in (by omega) (by omega), p2, Int.mul_comm]
            have w5 : wrap64 ((i : Int) + 1) = ((i + 1 : Nat) : Int) := wrap_succ (by omega)
            refine Ev.step (f := fun k => spec_GetVar.l0 k l (a : Int) (n + l[a + i] % 128 * 2 ^ (7 * i)) (2 ^ (7 * (i + 1))) ((i + 1 : Nat) : Int)) (fun _ => ?_) (ih (i + 1) (n + l[a + i] % 128 * 2 ^ (7 * i)) hd9 hi9 (gv_next n0 n1 q0 q1).1 (by rw [p2]; exact (gv_next n0 n1 q0 q1).2))
            simp only [spec_GetVar.j2, Bool.false_eq_true, if_false, if_neg hs, m1, w1, w2, w4, w5]
      have c0 : ¬ (((a + i : Nat) : Int) ≥ (l.length : Int)) := by omega
      have c1 : (0 : Int) ≤ ((a + i : Nat) : Int) := by omega
      have c2 : ((a + i : Nat) : Int) < (l.length : Int) := by omega
      have c3 : ((i : Int) < 9) := by omega
      by_cases hi0 : i > 0
      · have c4 : (i : Int) > 0 := by omega
        by_cases hz : l[a + i] = 0
        · refine Ev.step (f := fun k => spec_GetVar.j2 k l (a : Int) n (2 ^ (7 * i)) (i : Int) l[a + i] true) (fun _ => ?_) (behind _ ?_)
          · simp only [spec_GetVar.l0, if_pos c3, wa, if_neg c0, if_pos c1, if_pos c2, hrd, wx, if_pos c4, if_pos hz]
          · exact (decide_eq_true (by omega)).symm
        · by_cases h8 : i = 8
          · have c5 : (i : Int) = 8 := by omega
            refine Ev.step (f := fun k => spec_GetVar.j2 k l (a : Int) n (2 ^ (7 * i)) (i : Int) l[a + i] (decide (l[a + i] ≥ 128))) (fun _ => ?_) (behind _ ?_)
            · simp only [spec_GetVar.l0, if_pos c3, wa, if_neg c0, if_pos c1, if_pos c2, hrd, wx, if_pos c4, if_neg hz, if_pos c5]
            · exact decide_eq_decide.2 (by omega)
          · have c5 : ¬ (i : Int) = 8 := by omega
            refine Ev.step (f := fun k => spec_GetVar.j2 k l (a : Int) n (2 ^ (7 * i)) (i : Int) l[a + i] false) (fun _ => ?_) (behind _ ?_)
            · simp only [spec_GetVar.l0, if_pos c3, wa, if_neg c0, if_pos c1, if_pos c2, hrd, wx, if_pos c4, if_neg hz, if_neg c5]
            · exact (decide_eq_false (by omega)).symm
      · have c4 : ¬ (i : Int) > 0 := by omega
        have c5 : ¬ (i : Int) = 8 := by omega
        refine Ev.step (f := fun k => spec_GetVar.j2 k l (a : Int) n (2 ^ (7 * i)) (i : Int) l[a + i] false) (fun _ => ?_) (behind _ ?_)
        · simp only [spec_GetVar.l0, if_pos c3, wa, if_neg c0, if_pos c1, if_pos c2, hrd, wx, if_neg c4, if_neg c5]
        · exact (decide_eq_false (by omega)).symm
    · rw [dif_neg h]
      have c0 : (((a + i : Nat) : Int) ≥ (l.length : Int)) := by omega
      have c3 : ((i : Int) < 9) := by omega
      refine Ev.step (f := fun _ => some (0, 0, 1)) (fun _ => ?_) (Ev.now _)
      simp only [spec_GetVar.l0, if_pos c3, wa, if_pos c0]
theorem spec_getVar (l : List Int) (a : Int) (hb : Bytes l) (hl : l.length ≤ 4194304) : Ev (fun k => spec_GetVar.f k l a) (getVar l a) := by
  unfold spec_GetVar.f getVar
  have no : Ev (fun k => spec_GetVar.j0 k l a true) (0, 0, 1) := Ev.step (f := fun _ => some (0, 0, 1)) (fun _ => by simp only [spec_GetVar.j0, if_true]) (Ev.now _)
  by_cases h0 : a < 0
  · rw [if_neg (by omega)]
    exact ev_pos h0 no
  · refine ev_neg h0 ?_
    by_cases h1 : a ≤ (l.length : Int)
    · rw [if_pos (by omega), decide_eq_false (by omega)]
      obtain ⟨m, rfl⟩ := Int.eq_ofNat_of_zero_le (show 0 ≤ a by omega)
      refine Ev.step (f := fun k => spec_GetVar.l0 k l (m : Int) 0 1 0) (fun _ => by simp only [spec_GetVar.j0, Bool.false_eq_true, if_false]) ?_
      exact spec_getVar_l0 l m hb hl (by omega) 9 0 0 rfl (by omega) (by omega) (by decide)
    · rw [if_neg (by omega), decide_eq_true (by omega)]
      exact no
theorem impl_getVar_step (l : List Int) (a : Nat) (hb : Bytes l) (hl : l.length ≤ 4194304) (ha : a ≤ l.length) (d i : Nat) (n : Int) (hi : i ≤ 8) (n0 : 0 ≤ n) (n1 : n < 2 ^ (7 * i)) (next : i < 8 → ∀ m : Int, 0 ≤ m → m < 2 ^ (7 * (i + 1)) → Ev (fun k => impl_GetVar.l0 k l (a : Int) m ((i + 1 : Nat) : Int)) (readVar l a d (i + 1) m)) : Ev (fun k => impl_GetVar.l0 k l (a : Int) n (i : Int)) (readVar l a (d + 1) i n) := by
  obtain ⟨p0, p1, p2⟩ := pow7 i hi
  have wa : wrap64 ((a : Int) + (i : Int)) = ((a + i : Nat) : Int) := by rw [wrap_in (by omega) (by omega)]; omega
  unfold readVar
  by_cases h : a + i < l.length
  · have hv := hb l[a + i] (List.getElem_mem h)
    have hrd := rd_at h
    rw [dif_pos h]
    have behind : ∀ b : Bool, b = decide ((i > 0 ∧ l[a + i] = 0) ∨ (i = 8 ∧ l[a + i] ≥ 128)) → Ev (fun k => impl_GetVar.j1 k l (a : Int) n (i : Int) l[a + i] b) (if (i > 0 ∧ l[a + i] = 0) ∨ (i = 8 ∧ l[a + i] ≥ 128) then (0, 0, 2) else if l[a + i] < 128 then (if n + l[a + i] * 2 ^ (7 * i) > 1152921504606846975 then (0, 0, 2) else (n + l[a + i] * 2 ^ (7 * i), (a : Int) + (i : Int) + 1, 0)) else readVar l a d (i + 1) (n + l[a + i] % 128 * 2 ^ (7 * i))) := by
      intro b hbb
      by_cases hc : (i > 0 ∧ l[a + i] = 0) ∨ (i = 8 ∧ l[a + i] ≥ 128)
      · rw [decide_eq_true hc] at hbb
        subst hbb
        rw [if_pos hc]
        exact Ev.step (f := fun _ => some (0, 0, 2)) (fun _ => by simp only [impl_GetVar.j1, if_true]) (Ev.now _)
      · rw [decide_eq_false hc] at hbb
        subst hbb
        rw [if_neg hc]
        have q0 : 0 ≤ l[a + i] % 128 * 2 ^ (7 * i) := Int.mul_nonneg (by omega) (by omega)
        have q1 : l[a + i] % 128 * 2 ^ (7 * i) ≤ 127 * 2 ^ (7 * i) := Int.mul_le_mul_of_nonneg_right (by omega) (by omega)
        have u1 : Go.bits .and .u8 l[a + i] 127 = l[a + i] % 128 := bits_mask .u8 8 (by decide) wraps_u8 7 (by decide) _ hv.1 (by omega)
        have w0 : wrap64 (l[a + i] % 128) = l[a + i] % 128 := wrap_in (by omega) (by omega)
        have w7 : wrap64 (7 * (i : Int)) = 7 * (i : Int) := wrap_in (by omega) (by omega)
        have c7 : (0 : Int) ≤ 7 * (i : Int) := by omega
        have t7 : (7 * (i : Int)).toNat = 7 * i := by omega
        have s1 : shl .i64 (l[a + i] % 128) (7 * (i : Int)) = l[a + i] % 128 * 2 ^ (7 * i) := by
          rw [shl_i64 _ _ (by omega) (by omega) (by rw [t7]; exact q0) (by rw [t7]; omega), t7]
        have o1 : Go.bits .or .i64 n (l[a + i] % 128 * 2 ^ (7 * i)) = n + l[a + i] % 128 * 2 ^ (7 * i) := or_add n _ (7 * i) n0 n1 q0 (by rw [Int.mul_emod_left]) (by omega) (by omega)
        by_cases hs : l[a + i] < 128
        · rw [if_pos hs]
          have e : l[a + i] % 128 = l[a + i] := by omega
          rw [e] at u1 w0 s1 o1 q0
          have w3 : wrap64 (((a + i : Nat) : Int) + 1) = (a : Int) + (i : Int) + 1 := by rw [wrap_in (by omega) (by omega)]; omega
          by_cases hg : n + l[a + i] * 2 ^ (7 * i) > 1152921504606846975
          · rw [if_pos hg]
            have en : impl_isNum.f (n + l[a + i] * 2 ^ (7 * i)) = some false := by
              unfold impl_isNum.f impl_within.f
              rw [if_pos (by omega), decide_eq_false (by omega)]
              rfl
            refine Ev.step (f := fun _ => some (0, 0, 2)) (fun _ => ?_) (Ev.now _)
            simp only [impl_GetVar.j1, Bool.false_eq_true, if_false, w7, if_pos c7, if_pos hs, u1, w0, s1, o1, en, Option.bind_some]
          · rw [if_neg hg]
            have en : impl_isNum.f (n + l[a + i] * 2 ^ (7 * i)) = some true := by
              unfold impl_isNum.f impl_within.f
              rw [if_pos (by omega), decide_eq_true (by omega)]
              rfl
            refine Ev.step (f := fun _ => some _) (fun _ => ?_) (Ev.now _)
            simp only [impl_GetVar.j1, Bool.false_eq_true, if_false, w7, if_pos c7, if_pos hs, u1, w0, s1, o1, en, Option.bind_some, if_true, wa, w3]
        · rw [if_neg hs]
          have i7 : i < 8 := by omega
          have w5 : wrap64 ((i : Int) + 1) = ((i + 1 : Nat) : Int) := wrap_succ (by omega)
          refine Ev.step (f := fun k => impl_GetVar.l0 k l (a : Int) (n + l[a + i] % 128 * 2 ^ (7 * i)) ((i + 1 : Nat) : Int)) (fun _ => ?_) (next i7 (n + l[a + i] % 128 * 2 ^ (7 * i)) (gv_next n0 n1 q0 q1).1 (by rw [p2]; exact (gv_next n0 n1 q0 q1).2))
          simp only [impl_GetVar.j1, Bool.false_eq_true, if_false, w7, if_pos c7, if_neg hs, u1, w0, s1, o1, w5]
    have c0 : ¬ (((a + i : Nat) : Int) ≥ (l.length : Int)) := by omega
    have c1 : (0 : Int) ≤ ((a + i : Nat) : Int) := by omega
    have c2 : ((a + i : Nat) : Int) < (l.length : Int) := by omega
    by_cases hi0 : i > 0
    · have c4 : (i : Int) > 0 := by omega
      by_cases hz : l[a + i] = 0
      · refine Ev.step (f := fun k => impl_GetVar.j1 k l (a : Int) n (i : Int) l[a + i] true) (fun _ => ?_) (behind _ ?_)
        · simp only [impl_GetVar.l0, wa, if_neg c0, if_pos c1, if_pos c2, hrd, if_pos c4, if_pos hz]
        · exact (decide_eq_true (by omega)).symm
      · by_cases h8 : i = 8
        · have c5 : (i : Int) = 8 := by omega
          refine Ev.step (f := fun k => impl_GetVar.j1 k l (a : Int) n (i : Int) l[a + i] (decide (l[a + i] ≥ 128))) (fun _ => ?_) (behind _ ?_)
          · simp only [impl_GetVar.l0, wa, if_neg c0, if_pos c1, if_pos c2, hrd, if_pos c4, if_neg hz, if_pos c5]
          · exact decide_eq_decide.2 (by omega)
        · have c5 : ¬ (i : Int) = 8 := by omega
          refine Ev.step (f := fun k => impl_GetVar.j1 k l (a : Int) n (i : Int) l[a + i] false) (fun _ => ?_) (behind _ ?_)
          · simp only [impl_GetVar.l0, wa, if_neg c0, if_pos c1, if_pos c2, hrd, if_pos c4, if_neg hz, if_neg c5]
          · exact (decide_eq_false (by omega)).symm
    · have c4 : ¬ (i : Int) > 0 := by omega
      have c5 : ¬ (i : Int) = 8 := by omega
      refine Ev.step (f := fun k => impl_GetVar.j1 k l (a : Int) n (i : Int) l[a + i] false) (fun _ => ?_) (behind _ ?_)
      · simp only [impl_GetVar.l0, wa, if_neg c0, if_pos c1, if_pos c2, hrd, if_neg c4, if_neg c5]
      · exact (decide_eq_false (by omega)).symm
  · rw [dif_neg h]
    have c0 : (((a + i : Nat) : Int) ≥ (l.length : Int)) := by omega
    refine Ev.step (f := fun _ => some (0, 0, 1)) (fun _ => ?_) (Ev.now _)
    simp only [impl_GetVar.l0, wa, if_pos c0]
theorem impl_getVar_l0 (l : List Int) (a : Nat) (hb : Bytes l) (hl : l.length ≤ 4194304) (ha : a ≤ l.length) : ∀ (d i : Nat) (n : Int), 8 - i = d → i ≤ 8 → 0 ≤ n → n < 2 ^ (7 * i) → Ev (fun k => impl_GetVar.l0 k l (a : Int) n (i : Int)) (readVar l a (d + 1) i n) := by
  intro d
  induction d with
  | zero =>
    intro i n hd hi n0 n1
    exact impl_getVar_step l a hb hl ha 0 i n hi n0 n1 (fun h => by omega)
  | succ d ih =>
    intro i n hd hi n0 n1
    exact impl_getVar_step l a hb hl ha (d + 1) i n hi n0 n1 (fun h m m0 m1 => ih (i + 1) m (by omega) (by omega) m0 m1)
theorem impl_getVar (l : List Int) (a : Int) (hb : Bytes l) (hl : l.length ≤ 4194304) : Ev (fun k => impl_GetVar.f k l a) (getVar l a) := by
  unfold impl_GetVar.f getVar
  have e : impl_within.f a 0 (l.length : Int) = some (decide (0 ≤ a ∧ a ≤ (l.length : Int))) := by
    unfold impl_within.f
    by_cases h0 : 0 ≤ a <;> simp [h0]
  refine ev_bind0 e ?_
  by_cases h0 : 0 ≤ a ∧ a ≤ (l.length : Int)
  · rw [if_pos h0]
    refine ev_pos (by simpa using h0) ?_
    obtain ⟨m, rfl⟩ := Int.eq_ofNat_of_zero_le h0.1
    exact impl_getVar_l0 l m hb hl (by omega) 8 0 0 rfl (by omega) (by omega) (by decide)
  · rw [if_neg h0]
    exact ev_neg (by simpa using h0) (Ev.now _)

/-! ### impl_GetRaw -/
def getRaw (l : List Int) (a n : Int) : List Int × Int × Int := if (0 ≤ a ∧ a ≤ l.length) ∧ 0 ≤ n ∧ n ≤ l.length - a then ((l.take (a + n).toNat).drop a.toNat, a + n, 0) else ([], 0, 1)
theorem spec_getRaw (l : List Int) (a n : Int) (hl : l.length ≤ 4194304) : spec_GetRaw.f l a n = some (getRaw l a n) := by
  unfold spec_GetRaw.f getRaw
  by_cases h1 : a < 0
  · rw [if_pos h1, if_neg (by omega)]
  rw [if_neg h1]
  by_cases h2 : n < 0
  · rw [if_pos h2, if_neg (by omega)]
  rw [if_neg h2]
  by_cases h3 : a > (l.length : Int)
  · rw [if_pos h3, if_neg (by omega)]
  rw [if_neg h3, wrap_in (n := (l.length : Int) - a) (by omega) (by omega)]
  by_cases h4 : n > (l.length : Int) - a
  · rw [if_pos h4, if_neg (by omega)]
  rw [if_neg h4, if_pos (by omega), wrap_in (n := a + n) (by omega) (by omega), if_pos (by omega), if_pos (by omega), if_pos (by omega)]
  have hlen : ((l.take (a + n).toNat).drop a.toNat).length ≤ l.length := by simp; omega
  unfold spec_l01Copy.f
  simp only [Option.bind_some, List.nil_append, List.length_nil, Nat.zero_add]
  rw [if_pos (by omega)]
  rfl
theorem impl_getRaw (l : List Int) (a n : Int) (hl : l.length ≤ 4194304) : impl_GetRaw.f l a n = some (getRaw l a n) := by
  unfold impl_GetRaw.f getRaw impl_within.f
  by_cases h1 : 0 ≤ a
  · by_cases h3 : a ≤ (l.length : Int)
    · rw [if_pos h1, show decide (a ≤ (l.length : Int)) = true by simpa using h3, wrap_in (n := (l.length : Int) - a) (by omega) (by omega)]
      simp only [Option.bind_some, if_true]
      by_cases h2 : 0 ≤ n
      · by_cases h4 : n ≤ (l.length : Int) - a
        · rw [if_pos h2, show decide (n ≤ (l.length : Int) - a) = true by simpa using h4]
          simp only [Option.bind_some, if_true]
          rw [if_pos (by omega), wrap_in (n := a + n) (by omega) (by omega), if_pos (by omega), if_pos (by omega), if_pos (by omega)]
          have hlen : ((l.take (a + n).toNat).drop a.toNat).length ≤ l.length := by simp; omega
          unfold impl_copyBytes.f
          simp only [Option.bind_some, List.nil_append, List.length_nil, Nat.zero_add]
          rw [if_pos (by omega)]
          rfl
        · rw [if_pos h2, show decide (n ≤ (l.length : Int) - a) = false by simp; omega]
          simp only [Option.bind_some, Bool.false_eq_true, if_false]
          rw [if_neg (by omega)]
      · rw [if_neg h2]
        simp only [Option.bind_some, Bool.false_eq_true, if_false]
        rw [if_neg (by omega)]
    · rw [if_pos h1, show decide (a ≤ (l.length : Int)) = false by simp; omega]
      simp only [Option.bind_some, Bool.false_eq_true, if_false]
      rw [if_neg (by omega)]
  · rw [if_neg h1]
    simp only [Option.bind_some, Bool.false_eq_true, if_false]
    rw [if_neg (by omega)]
theorem getRaw_length (l : List Int) (a n : Int) : (getRaw l a n).1.length ≤ l.length := by
  unfold getRaw
  split
  · simp; omega
  · simp
theorem getRaw_bytes (l : List Int) (a n : Int) (h : Bytes l) : Bytes (getRaw l a n).1 := by
  unfold getRaw
  split
  · exact (h.take _).drop _
  · exact Bytes.nil

/-! ### impl_GetText -/
def getText (l : List Int) (a m : Int) : List Int × Int × Int := if (getVar l a).2.2 = 0 then (if (getVar l a).1 > m then ([], 0, 3) else getRaw l (getVar l a).2.1 (getVar l a).1) else ([], 0, (getVar l a).2.2)
theorem spec_getText (l : List Int) (a m : Int) (hb : Bytes l) (hl : l.length ≤ 4194304) : Ev (fun k => spec_GetText.f k l a m) (getText l a m) := by
  unfold spec_GetText.f getText
  refine Ev.bind (spec_getVar l a hb hl) ?_
  exact ev_ite (fun h0 => ev_ite (fun h1 => Ev.now _) (fun h1 => ev_bind0 (spec_getRaw l _ _ hl) (Ev.now _))) (fun h0 => Ev.now _)
theorem impl_getText (l : List Int) (a m : Int) (hb : Bytes l) (hl : l.length ≤ 4194304) : Ev (fun k => impl_GetText.f k l a m) (getText l a m) := by
  unfold impl_GetText.f getText
  refine Ev.bind (impl_getVar l a hb hl) ?_
  exact ev_ite (fun h0 => ev_ite (fun h1 => Ev.now _) (fun h1 => ev_bind0 (impl_getRaw l _ _ hl) (Ev.now _))) (fun h0 => Ev.now _)
theorem getText_length (l : List Int) (a m : Int) : (getText l a m).1.length ≤ l.length := by
  unfold getText
  split
  · split
    · simp
    · exact getRaw_length _ _ _
  · simp

attribute [local congr] bind_lazy ite_lazy
theorem FnExactGetText : laws_FnExactGetText.Pure := by
  intro l a m _ _ hw_l hw_a hw_m
  have hb_l := bytes_of_wf hw_l
  by_cases g_l : (l.length : Int) > 1048576
  · exact ⟨0, by simp only [laws_FnExactGetText.f, if_pos g_l]⟩
  obtain ⟨K0, t_l⟩ := toByteS_ev l (by omega)
  obtain ⟨K1, q_l⟩ := eqByteS_same l (by omega)
  obtain ⟨K2, es⟩ := spec_getText l a m hb_l (by omega)
  obtain ⟨K3, ei⟩ := impl_getText l a m hb_l (by omega)
  have hr0 := getText_length l a m
  generalize getText l a m = r at es ei hr0
  obtain ⟨r0, r1, r2⟩ := r
  simp only at hr0
  obtain ⟨K4, m_l⟩ := markByteS_ev l (1) (by omega) (by omega)
  have neg0 : ¬ (1 + (l.length : Int) < 0) := by omega
  obtain ⟨K5, q_r0⟩ := eqByteS_same r0 (by omega)
  obtain ⟨K6, m_r0⟩ := markByteS_ev r0 (1) (by omega) (by omega)
  obtain ⟨K7, h_r0⟩ := heldByteS_ev (1) r0.length (by omega) (by omega)
  have neg1 : ¬ (1 + (r0.length : Int) < 0) := by omega
  refine ⟨K0 + K1 + K2 + K3 + K4 + K5 + K6 + K7 + 4, ?_⟩
  simp (disch := omega) only [laws_FnExactGetText.f, laws_FnExactGetText.j0, laws_FnExactGetText.j1, laws_FnExactGetText.j2, if_neg g_l, t_l, q_l, es, ei, m_l, q_r0, m_r0, h_r0, if_neg neg0, if_neg neg1, bind_at, bne_self_eq_false, Bool.not_true, Bool.not_false, Bool.false_eq_true, if_true, if_false]

end Go.Proofs.Ythddmjogfolafaa.Pure
