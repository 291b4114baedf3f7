/- The program's function answers what the reference's answers, for all arguments: the printed law comes to true. Conditions: those of the printed statement alone. -/
import Derived.Test.YtmjbfnolfkfnjaaQFnExactBitsAndx2
import Derived.Test.YtmjbfnolfkfnjaaLib
set_option linter.unusedVariables false
set_option linter.unusedSimpArgs false
set_option maxRecDepth 4000
namespace Go.Proofs.Ytmjbfnolfkfnjaa.Pure
open Go.RowKit Go.Proofs.Ytmjbfnolfkfnjaa.QFnExactBitsAnd Go.Proofs.YtmjbfnolfkfnjaaW.PrintWords Go.Proofs.YtmjbfnolfkfnjaaW.PrintLast Go.Proofs.YtmjbfnolfkfnjaaW.PrintMore Go.Proofs.Ytmjbfnolfkfnjaa.Lib

/-! ### laws_toByteS -/
theorem toByteS_l0 (l : List Int) (hl : l.length ≤ 1048576) : ∀ (d i : Nat) (ys : List Int), l.length - i = d → i ≤ l.length → ys.length = l.length → ys.take i = l.take i → Ev (fun k => laws_toByteS.l0 k l ys (i : Int)) l := by
  intro d
  induction d with
  | zero =>
    intro i ys hd hi hy ht
    refine Ev.step (fun _ => rfl) (ev_neg (by omega) (ev_some ?_))
    rw [List.take_of_length_le (by omega), List.take_of_length_le (by omega)] at ht
    exact ht
  | succ d ih =>
    intro i ys hd hi hy ht
    refine Ev.step (fun _ => rfl) (ev_pos (by omega) (ev_pos (by omega) (ev_pos (by omega) ?_)))
    rw [wrap_succ (by omega), rd_at (show i < l.length by omega), Int.toNat_natCast]
    exact ih (i + 1) _ (by omega) (by omega) (by simpa using hy) (set_take_succ ys l i (by omega) (by omega) ht)
theorem toByteS_ev (l : List Int) (hl : l.length ≤ 1048576) : Ev (fun k => laws_toByteS.f k l) l := by
  unfold laws_toByteS.f
  refine ev_pos (by omega) (ev_pos (by omega) ?_)
  rw [Int.toNat_natCast]
  exact toByteS_l0 l hl _ 0 _ rfl (by omega) (by simp) (by simp)

/-! ### laws_eqByteS -/
theorem eqByteS_l0 (a b : List Int) (hl : a.length ≤ 9000000000000000000) (hab : a.length = b.length) : ∀ (d i : Nat), a.length - i = d → i ≤ a.length → a.take i = b.take i → Ev (fun k => laws_eqByteS.l0 k a b (i : Int)) (decide (a = b)) := by
  intro d
  induction d with
  | zero =>
    intro i hd hi ht
    refine Ev.step (fun _ => rfl) (ev_neg (by omega) (ev_some ?_))
    rw [List.take_of_length_le (by omega), List.take_of_length_le (by omega)] at ht
    simp [ht]
  | succ d ih =>
    intro i hd hi ht
    refine Ev.step (fun _ => rfl) (ev_pos (by omega) (ev_pos (by omega) (ev_pos (by omega) ?_)))
    have ha : i < a.length := by omega
    have hb : i < b.length := by omega
    rw [rd_at ha, rd_at hb]
    by_cases e : a[i] = b[i]
    · refine ev_pos e ?_
      rw [wrap_succ (by omega)]
      exact ih (i + 1) (by omega) (by omega) (by rw [List.take_succ_eq_append_getElem ha, List.take_succ_eq_append_getElem hb, ht, e])
    · refine ev_neg e (ev_some ?_)
      have : a ≠ b := fun h => e (by subst h; rfl)
      simp [this]
theorem eqByteS_ev (a b : List Int) (hl : a.length ≤ 9000000000000000000) : Ev (fun k => laws_eqByteS.f k a b) (decide (a = b)) := by
  unfold laws_eqByteS.f
  by_cases h : a.length = b.length
  · refine ev_pos (by omega) ?_
    exact eqByteS_l0 a b hl h _ 0 rfl (by omega) (by simp)
  · refine ev_neg (by omega) (ev_some ?_)
    have : a ≠ b := fun e => h (by rw [e])
    simp [this]
theorem eqByteS_same (a : List Int) (hl : a.length ≤ 9000000000000000000) : Ev (fun k => laws_eqByteS.f k a a) true := ev_eq (by simp) (eqByteS_ev a a hl)

/-! ### laws_markByteS -/
theorem markByteS_l0 (a : Int) (n : Nat) (h0 : 0 ≤ a) (h1 : a + n ≤ 9000000000000000000) : ∀ (d i : Nat) (ys : List Int), n - i = d → i ≤ n → ys.length = n → ys.take i = (marks a n).take i → Ev (fun k => laws_markByteS.l0 k ys (a + (i : Int)) (i : Int)) (a + (n : Int), marks a n) := by
  intro d
  induction d with
  | zero =>
    intro i ys hd hi hy ht
    refine Ev.step (fun _ => rfl) (ev_neg (by omega) (ev_some ?_))
    rw [List.take_of_length_le (by omega), List.take_of_length_le (by rw [marks_length]; omega)] at ht
    rw [ht, show i = n by omega]
  | succ d ih =>
    intro i ys hd hi hy ht
    refine Ev.step (fun _ => rfl) (ev_pos (by omega) (ev_pos (by omega) ?_))
    have hm : i < (marks a n).length := by rw [marks_length]; omega
    have e : (a + (i : Int)) % 256 = (marks a n)[i] := by rw [← rd_at hm, marks_at a n (by omega)]
    rw [wrap_succ (by omega), wrap_in (by omega) (by omega), show a + (i : Int) + 1 = a + ((i + 1 : Nat) : Int) by omega, e, Int.toNat_natCast]
    exact ih (i + 1) _ (by omega) (by omega) (by simpa using hy) (set_take_succ ys (marks a n) i (by omega) hm ht)
theorem markByteS_ev (l : List Int) (a : Int) (h0 : 0 ≤ a) (h1 : a + l.length ≤ 9000000000000000000) : Ev (fun k => laws_markByteS.f k l a) (a + (l.length : Int), marks a l.length) := by
  unfold laws_markByteS.f
  have := markByteS_l0 a l.length h0 h1 _ 0 l rfl (by omega) rfl (by simp)
  simpa using this

/-! ### laws_heldByteS -/
theorem heldByteS_l0 (a : Int) (n : Nat) (h0 : 0 ≤ a) (h1 : a + n ≤ 9000000000000000000) : ∀ (d i : Nat), n - i = d → i ≤ n → Ev (fun k => laws_heldByteS.l0 k (marks a n) (a + (i : Int)) (i : Int)) (a + (n : Int)) := by
  intro d
  induction d with
  | zero =>
    intro i hd hi
    refine Ev.step (fun _ => rfl) (ev_neg (by rw [marks_length]; omega) (ev_some ?_))
    rw [show i = n by omega]
  | succ d ih =>
    intro i hd hi
    refine Ev.step (fun _ => rfl) (ev_pos (by rw [marks_length]; omega) (ev_pos (by omega) (ev_pos (marks_at a n (by omega)) ?_)))
    rw [wrap_succ (by omega), wrap_in (by omega) (by omega), show a + (i : Int) + 1 = a + ((i + 1 : Nat) : Int) by omega]
    exact ih (i + 1) (by omega) (by omega)
theorem heldByteS_ev (a : Int) (n : Nat) (h0 : 0 ≤ a) (h1 : a + n ≤ 9000000000000000000) : Ev (fun k => laws_heldByteS.f k (marks a n) a) (a + (n : Int)) := by
  unfold laws_heldByteS.f
  have := heldByteS_l0 a n h0 h1 _ 0 rfl (by omega)
  simpa using this

/-! ### spec_BitsAnd -/
def andL (a b : List Int) : List Int := List.zipWith (fun x y => Go.bits .and .u8 x y) a b
theorem zip_snoc (f : Int → Int → Int) (a b : List Int) (i : Nat) (ha : i < a.length) (hb : i < b.length) : List.zipWith f (a.take (i + 1)) (b.take (i + 1)) = List.zipWith f (a.take i) (b.take i) ++ [f a[i] b[i]] := by
  rw [List.take_succ_eq_append_getElem ha, List.take_succ_eq_append_getElem hb, List.zipWith_append (by simp; omega)]
  rfl
theorem spec_and_l0 (a b : List Int) (hl : a.length ≤ 1048576) (hab : a.length = b.length) : ∀ (d i : Nat), a.length - i = d → i ≤ a.length → Ev (fun k => spec_BitsAnd.l0 k a b (andL (a.take i) (b.take i)) (a.length : Int) (i : Int)) (andL a b) := by
  intro d
  induction d with
  | zero =>
    intro i hd hi
    refine Ev.step (fun _ => rfl) (ev_neg (by omega) (ev_some ?_))
    rw [List.take_of_length_le (by omega), List.take_of_length_le (by omega)]
  | succ d ih =>
    intro i hd hi
    have ha : i < a.length := by omega
    have hb : i < b.length := by omega
    have hlen : (andL (a.take i) (b.take i)).length ≤ i := by
      unfold andL
      rw [List.length_zipWith, List.length_take]
      omega
    refine Ev.step (fun _ => rfl) (ev_pos (by omega) (ev_pos (by omega) (ev_pos (by omega) (ev_pos (by omega) (ev_pos (by omega) ?_)))))
    rw [rd_at ha, rd_at hb, wrap_succ (by omega)]
    have := ih (i + 1) (by omega) (by omega)
    unfold andL at this ⊢
    rw [zip_snoc _ a b i ha hb] at this
    exact this
def bitsAnd (a b : List Int) : List Int := if a.length = b.length then andL a b else []
theorem spec_bitsAnd (a b : List Int) (hl : a.length ≤ 1048576) : Ev (fun k => spec_BitsAnd.f k a b) (bitsAnd a b) := by
  unfold spec_BitsAnd.f bitsAnd
  by_cases h : a.length = b.length
  · rw [if_pos h]
    exact ev_pos (by omega) (spec_and_l0 a b hl h _ 0 rfl (by omega))
  · rw [if_neg h]
    exact ev_neg (by omega) (Ev.now _)
theorem bitsAnd_length (a b : List Int) : (bitsAnd a b).length ≤ a.length := by
  unfold bitsAnd andL
  split
  · rw [List.length_zipWith]; omega
  · simp

/-! ### impl_BitsAnd -/
def andI (a b : List Int) : List Int := List.zipWith (fun x y => Go.bits .and .u8 x y) a b
theorem zip_snocI (f : Int → Int → Int) (a b : List Int) (i : Nat) (ha : i < a.length) (hb : i < b.length) : List.zipWith f (a.take (i + 1)) (b.take (i + 1)) = List.zipWith f (a.take i) (b.take i) ++ [f a[i] b[i]] := by
  rw [List.take_succ_eq_append_getElem ha, List.take_succ_eq_append_getElem hb, List.zipWith_append (by simp; omega)]
  rfl
theorem impl_and_l0 (a b : List Int) (hl : a.length ≤ 1048576) (hab : a.length = b.length) : ∀ (d i : Nat), a.length - i = d → i ≤ a.length → Ev (fun k => impl_eachAtBitsAndF1.l0 k a b (andI (a.take i) (b.take i)) (a.length : Int) (i : Int)) (andI a b) := by
  intro d
  induction d with
  | zero =>
    intro i hd hi
    refine Ev.step (fun _ => rfl) (ev_neg (by omega) (ev_some ?_))
    rw [List.take_of_length_le (by omega), List.take_of_length_le (by omega)]
  | succ d ih =>
    intro i hd hi
    have ha : i < a.length := by omega
    have hb : i < b.length := by omega
    have hlen : (andI (a.take i) (b.take i)).length ≤ i := by
      unfold andI
      rw [List.length_zipWith, List.length_take]
      omega
    refine Ev.step (fun _ => rfl) (ev_pos (by omega) (ev_pos (by omega) (ev_pos (by omega) (ev_pos (by omega) ?_))))
    rw [rd_at ha, rd_at hb, wrap_succ (by omega)]
    refine ev_bind0 rfl (ev_pos (by omega) ?_)
    have := ih (i + 1) (by omega) (by omega)
    unfold andI at this ⊢
    rw [zip_snocI _ a b i ha hb] at this
    exact this
def bitsAndI (a b : List Int) : List Int := if a.length = b.length then andI a b else []
theorem impl_bitsAnd (a b : List Int) (hl : a.length ≤ 1048576) : Ev (fun k => impl_BitsAnd.f k a b) (bitsAndI a b) := by
  unfold impl_BitsAnd.f impl_eachAtBitsAndF1.f bitsAndI
  refine Ev.bind (a := bitsAndI a b) ?_ (Ev.now _)
  unfold bitsAndI
  by_cases h : a.length = b.length
  · rw [if_pos h]
    exact ev_pos (by omega) (impl_and_l0 a b hl h _ 0 rfl (by omega))
  · rw [if_neg h]
    exact ev_neg (by omega) (Ev.now _)

attribute [local congr] bind_lazy ite_lazy
theorem FnExactBitsAnd : laws_FnExactBitsAnd.Pure := by
  intro a b _ _ hw_a _ _ hw_b
  have hb_a := bytes_of_wf hw_a
  have hb_b := bytes_of_wf hw_b
  by_cases g_a : (a.length : Int) > 1048576
  · exact ⟨0, by simp only [laws_FnExactBitsAnd.f, if_pos g_a]⟩
  by_cases g_b : (b.length : Int) > 1048576
  · exact ⟨0, by simp only [laws_FnExactBitsAnd.f, if_neg g_a, if_pos g_b]⟩
  obtain ⟨K0, t_a⟩ := toByteS_ev a (by omega)
  obtain ⟨K1, q_a⟩ := eqByteS_same a (by omega)
  obtain ⟨K2, t_b⟩ := toByteS_ev b (by omega)
  obtain ⟨K3, q_b⟩ := eqByteS_same b (by omega)
  obtain ⟨K4, es⟩ := spec_bitsAnd a b (by omega)
  obtain ⟨K5, ei⟩ := (show ∃ K, ∀ k, K ≤ k → _ = some (bitsAnd a b) from impl_bitsAnd a b (by omega))
  have hr0 := bitsAnd_length a b
  generalize bitsAnd a b = r at es ei hr0
  obtain ⟨K6, m_a⟩ := markByteS_ev a (1) (by omega) (by omega)
  obtain ⟨K7, m_b⟩ := markByteS_ev b (1 + (a.length : Int)) (by omega) (by omega)
  have neg0 : ¬ (1 + (a.length : Int) + (b.length : Int) < 0) := by omega
  obtain ⟨K8, q_r⟩ := eqByteS_same r (by omega)
  obtain ⟨K9, m_r⟩ := markByteS_ev r (1) (by omega) (by omega)
  obtain ⟨K10, h_r⟩ := heldByteS_ev (1) r.length (by omega) (by omega)
  have neg1 : ¬ (1 + (r.length : Int) < 0) := by omega
  refine ⟨K0 + K1 + K2 + K3 + K4 + K5 + K6 + K7 + K8 + K9 + K10 + 4, ?_⟩
  simp (disch := omega) only [laws_FnExactBitsAnd.f, laws_FnExactBitsAnd.j0, if_neg g_a, if_neg g_b, t_a, q_a, t_b, q_b, es, ei, m_a, m_b, q_r, m_r, h_r, if_neg neg0, if_neg neg1, bind_at, bne_self_eq_false, Bool.not_true, Bool.not_false, Bool.false_eq_true, if_true, if_false]

end Go.Proofs.Ytmjbfnolfkfnjaa.Pure
