/- The program's function answers what the reference's answers, for all arguments: the printed law comes to true. Conditions: those of the printed statement alone. -/
import Derived.Test.YtmjbfnolfkfnjaaPFnExactBitsNewx1
import Derived.Test.YtmjbfnolfkfnjaaLib
set_option linter.unusedVariables false
set_option linter.unusedSimpArgs false
set_option maxRecDepth 4000
namespace Go.Proofs.Ytmjbfnolfkfnjaa.Pure
open Go.RowKit Go.Proofs.Ytmjbfnolfkfnjaa.PFnExactBitsNew Go.Proofs.YtmjbfnolfkfnjaaW.PrintWords Go.Proofs.YtmjbfnolfkfnjaaW.PrintLast Go.Proofs.YtmjbfnolfkfnjaaW.PrintMore Go.Proofs.Ytmjbfnolfkfnjaa.Lib

/-! ### laws_eqByteS -/
theorem eqByteS_l0 (a b : List Int) (hl : a.length ≤ 9000000000000000000) (hab : a.length = b.length) : ∀ (d i : Nat), a.length - i = d → i ≤ a.length → a.take i = b.take i → Ev (fun k => laws_eqByteS.l0 k a b (i : Int)) (decide (a = b)) := by
  intro d
  induction d with
  | zero =>
    intro i hd hi ht
    refine Ev.step (fun _ => rfl) (ev_neg (by omega) (ev_some ?_))
    rw [List.take_of_length_le (by omega), List.take_of_length_le (by omega)] at ht
    simp [ht]
  | succ d ih =>
    intro i hd hi ht
    refine Ev.step (fun _ => rfl) (ev_pos (by omega) (ev_pos (by omega) (ev_pos (by omega) ?_)))
    have ha : i < a.length := by omega
    have hb : i < b.length := by omega
    rw [rd_at ha, rd_at hb]
    by_cases e : a[i] = b[i]
    · refine ev_pos e ?_
      rw [wrap_succ (by omega)]
      exact ih (i + 1) (by omega) (by omega) (by rw [List.take_succ_eq_append_getElem ha, List.take_succ_eq_append_getElem hb, ht, e])
    · refine ev_neg e (ev_some ?_)
      have : a ≠ b := fun h => e (by subst h; rfl)
      simp [this]
theorem eqByteS_ev (a b : List Int) (hl : a.length ≤ 9000000000000000000) : Ev (fun k => laws_eqByteS.f k a b) (decide (a = b)) := by
  unfold laws_eqByteS.f
  by_cases h : a.length = b.length
  · refine ev_pos (by omega) ?_
    exact eqByteS_l0 a b hl h _ 0 rfl (by omega) (by simp)
  · refine ev_neg (by omega) (ev_some ?_)
    have : a ≠ b := fun e => h (by rw [e])
    simp [this]
theorem eqByteS_same (a : List Int) (hl : a.length ≤ 9000000000000000000) : Ev (fun k => laws_eqByteS.f k a a) true := ev_eq (by simp) (eqByteS_ev a a hl)

/-! ### laws_markByteS -/
theorem markByteS_l0 (a : Int) (n : Nat) (h0 : 0 ≤ a) (h1 : a + n ≤ 9000000000000000000) : ∀ (d i : Nat) (ys : List Int), n - i = d → i ≤ n → ys.length = n → ys.take i = (marks a n).take i → Ev (fun k => laws_markByteS.l0 k ys (a + (i : Int)) (i : Int)) (a + (n : Int), marks a n) := by
  intro d
  induction d with
  | zero =>
    intro i ys hd hi hy ht
    refine Ev.step (fun _ => rfl) (ev_neg (by omega) (ev_some ?_))
    rw [List.take_of_length_le (by omega), List.take_of_length_le (by rw [marks_length]; omega)] at ht
    rw [ht, show i = n by omega]
  | succ d ih =>
    intro i ys hd hi hy ht
    refine Ev.step (fun _ => rfl) (ev_pos (by omega) (ev_pos (by omega) ?_))
    have hm : i < (marks a n).length := by rw [marks_length]; omega
    have e : (a + (i : Int)) % 256 = (marks a n)[i] := by rw [← rd_at hm, marks_at a n (by omega)]
    rw [wrap_succ (by omega), wrap_in (by omega) (by omega), show a + (i : Int) + 1 = a + ((i + 1 : Nat) : Int) by omega, e, Int.toNat_natCast]
    exact ih (i + 1) _ (by omega) (by omega) (by simpa using hy) (set_take_succ ys (marks a n) i (by omega) hm ht)
theorem markByteS_ev (l : List Int) (a : Int) (h0 : 0 ≤ a) (h1 : a + l.length ≤ 9000000000000000000) : Ev (fun k => laws_markByteS.f k l a) (a + (l.length : Int), marks a l.length) := by
  unfold laws_markByteS.f
  have := markByteS_l0 a l.length h0 h1 _ 0 l rfl (by omega) rfl (by simp)
  simpa using this

/-! ### laws_heldByteS -/
theorem heldByteS_l0 (a : Int) (n : Nat) (h0 : 0 ≤ a) (h1 : a + n ≤ 9000000000000000000) : ∀ (d i : Nat), n - i = d → i ≤ n → Ev (fun k => laws_heldByteS.l0 k (marks a n) (a + (i : Int)) (i : Int)) (a + (n : Int)) := by
  intro d
  induction d with
  | zero =>
    intro i hd hi
    refine Ev.step (fun _ => rfl) (ev_neg (by rw [marks_length]; omega) (ev_some ?_))
    rw [show i = n by omega]
  | succ d ih =>
    intro i hd hi
    refine Ev.step (fun _ => rfl) (ev_pos (by rw [marks_length]; omega) (ev_pos (by omega) (ev_pos (marks_at a n (by omega)) ?_)))
    rw [wrap_succ (by omega), wrap_in (by omega) (by omega), show a + (i : Int) + 1 = a + ((i + 1 : Nat) : Int) by omega]
    exact ih (i + 1) (by omega) (by omega)
theorem heldByteS_ev (a : Int) (n : Nat) (h0 : 0 ≤ a) (h1 : a + n ≤ 9000000000000000000) : Ev (fun k => laws_heldByteS.f k (marks a n) a) (a + (n : Int)) := by
  unfold laws_heldByteS.f
  have := heldByteS_l0 a n h0 h1 _ 0 rfl (by omega)
  simpa using this

/-! ### impl_BitsNew -/
def bitsNew (n : Int) : List Int := if 1 ≤ n ∧ n ≤ 10 then List.replicate ((n - 1) / 8 + 1).toNat 0 else []
theorem spec_bitsSize (n : Int) (h0 : 1 ≤ n) (h1 : n ≤ 10) : spec_BitsSize.f n = some ((n - 1) / 8 + 1) := by
  unfold spec_BitsSize.f
  rw [if_neg (by omega), wrap_in (n := n - 1) (by omega) (by omega), Int.tdiv_eq_ediv_of_nonneg (by omega), wrap_in (n := (n - 1) / 8) (by omega) (by omega), wrap_in (by omega) (by omega)]
theorem impl_bitsSize (n : Int) (h0 : 1 ≤ n) (h1 : n ≤ 10) : impl_BitsSize.f n = some ((n - 1) / 8 + 1) := spec_bitsSize n h0 h1
theorem spec_signers (n : Int) : spec_l02Signers.f n = some (decide (1 ≤ n ∧ n ≤ 10)) := by
  unfold spec_l02Signers.f spec_l01In.f
  by_cases h0 : n ≥ 1
  · rw [if_pos h0]
    simp only [Option.bind_some]
    congr 1
    simp
    omega
  · rw [if_neg h0]
    simp only [Option.bind_some]
    congr 1
    simp
    omega
theorem impl_signers (n : Int) : impl_within.f n 1 10 = some (decide (1 ≤ n ∧ n ≤ 10)) := by
  unfold impl_within.f
  by_cases h0 : 1 ≤ n
  · rw [if_pos h0]
    congr 1
    simp
    omega
  · rw [if_neg h0]
    congr 1
    simp
    omega
theorem spec_bitsNew (n : Int) : spec_BitsNew.f n = some (bitsNew n) := by
  unfold spec_BitsNew.f bitsNew
  rw [spec_signers]
  simp only [Option.bind_some]
  by_cases h : 1 ≤ n ∧ n ≤ 10
  · rw [if_pos (by simpa using h), if_pos h, spec_bitsSize n h.1 h.2]
    simp only [Option.bind_some]
    rw [if_pos (by omega), if_pos (by omega)]
  · rw [if_neg (by simpa using h), if_neg h]
theorem impl_bitsNew (n : Int) : impl_BitsNew.f n = some (bitsNew n) := by
  unfold impl_BitsNew.f bitsNew
  rw [impl_signers]
  simp only [Option.bind_some]
  by_cases h : 1 ≤ n ∧ n ≤ 10
  · rw [if_pos (by simpa using h), if_pos h, impl_bitsSize n h.1 h.2]
    simp only [Option.bind_some]
    rw [if_pos (by omega), if_pos (by omega)]
  · rw [if_neg (by simpa using h), if_neg h]
theorem bitsNew_length (n : Int) : (bitsNew n).length ≤ 2 := by
  unfold bitsNew
  split
  · simp; omega
  · simp

attribute [local congr] bind_lazy ite_lazy
theorem FnExactBitsNew : laws_FnExactBitsNew.Pure := by
  intro n hw_n
  have es := spec_bitsNew n
  have ei := impl_bitsNew n
  have hr0 := bitsNew_length n
  generalize bitsNew n = r at es ei hr0
  obtain ⟨K0, q_r⟩ := eqByteS_same r (by omega)
  obtain ⟨K1, m_r⟩ := markByteS_ev r (1) (by omega) (by omega)
  obtain ⟨K2, h_r⟩ := heldByteS_ev (1) r.length (by omega) (by omega)
  have neg1 : ¬ (1 + (r.length : Int) < 0) := by omega
  refine ⟨K0 + K1 + K2 + 10, ?_⟩
  simp (disch := omega) only [laws_FnExactBitsNew.f, es, ei, q_r, m_r, h_r, if_neg neg1, Option.bind_some, bne_self_eq_false, Bool.not_true, Bool.not_false, Bool.false_eq_true, if_true, if_false]

end Go.Proofs.Ytmjbfnolfkfnjaa.Pure
