/- The program's function answers what the reference's answers, for all arguments: the printed law comes to true. Conditions: those of the printed statement alone. -/
import Derived.Test.YtmjbfnolfkfnjaaQFnExactBitsInx2
import Derived.Test.YtmjbfnolfkfnjaaLib
set_option linter.unusedVariables false
set_option linter.unusedSimpArgs false
set_option maxRecDepth 4000
namespace Go.Proofs.Ytmjbfnolfkfnjaa.Pure
open Go.RowKit Go.Proofs.Ytmjbfnolfkfnjaa.QFnExactBitsIn Go.Proofs.YtmjbfnolfkfnjaaW.PrintWords Go.Proofs.YtmjbfnolfkfnjaaW.PrintLast Go.Proofs.YtmjbfnolfkfnjaaW.PrintMore Go.Proofs.Ytmjbfnolfkfnjaa.Lib

/-! ### laws_toByteS -/
theorem toByteS_l0 (l : List Int) (hl : l.length ≤ 1048576) : ∀ (d i : Nat) (ys : List Int), l.length - i = d → i ≤ l.length → ys.length = l.length → ys.take i = l.take i → Ev (fun k => laws_toByteS.l0 k l ys (i : Int)) l := by
  intro d
  induction d with
  | zero =>
    intro i ys hd hi hy ht
    refine Ev.step (fun _ => rfl) (ev_neg (by omega) (ev_some ?_))
    rw [List.take_of_length_le (by omega), List.take_of_length_le (by omega)] at ht
    exact ht
  | succ d ih =>
    intro i ys hd hi hy ht
    refine Ev.step (fun _ => rfl) (ev_pos (by omega) (ev_pos (by omega) (ev_pos (by omega) ?_)))
    rw [wrap_succ (by omega), rd_at (show i < l.length by omega), Int.toNat_natCast]
    exact ih (i + 1) _ (by omega) (by omega) (by simpa using hy) (set_take_succ ys l i (by omega) (by omega) ht)
theorem toByteS_ev (l : List Int) (hl : l.length ≤ 1048576) : Ev (fun k => laws_toByteS.f k l) l := by
  unfold laws_toByteS.f
  refine ev_pos (by omega) (ev_pos (by omega) ?_)
  rw [Int.toNat_natCast]
  exact toByteS_l0 l hl _ 0 _ rfl (by omega) (by simp) (by simp)

/-! ### laws_eqByteS -/
theorem eqByteS_l0 (a b : List Int) (hl : a.length ≤ 9000000000000000000) (hab : a.length = b.length) : ∀ (d i : Nat), a.length - i = d → i ≤ a.length → a.take i = b.take i → Ev (fun k => laws_eqByteS.l0 k a b (i : Int)) (decide (a = b)) := by
  intro d
  induction d with
  | zero =>
    intro i hd hi ht
    refine Ev.step (fun _ => rfl) (ev_neg (by omega) (ev_some ?_))
    rw [List.take_of_length_le (by omega), List.take_of_length_le (by omega)] at ht
    simp [ht]
  | succ d ih =>
    intro i hd hi ht
    refine Ev.step (fun _ => rfl) (ev_pos (by omega) (ev_pos (by omega) (ev_pos (by omega) ?_)))
    have ha : i < a.length := by omega
    have hb : i < b.length := by omega
    rw [rd_at ha, rd_at hb]
    by_cases e : a[i] = b[i]
    · refine ev_pos e ?_
      rw [wrap_succ (by omega)]
      exact ih (i + 1) (by omega) (by omega) (by rw [List.take_succ_eq_append_getElem ha, List.take_succ_eq_append_getElem hb, ht, e])
    · refine ev_neg e (ev_some ?_)
      have : a ≠ b := fun h => e (by subst h; rfl)
      simp [this]
theorem eqByteS_ev (a b : List Int) (hl : a.length ≤ 9000000000000000000) : Ev (fun k => laws_eqByteS.f k a b) (decide (a = b)) := by
  unfold laws_eqByteS.f
  by_cases h : a.length = b.length
  · refine ev_pos (by omega) ?_
    exact eqByteS_l0 a b hl h _ 0 rfl (by omega) (by simp)
  · refine ev_neg (by omega) (ev_some ?_)
    have : a ≠ b := fun e => h (by rw [e])
    simp [this]
theorem eqByteS_same (a : List Int) (hl : a.length ≤ 9000000000000000000) : Ev (fun k => laws_eqByteS.f k a a) true := ev_eq (by simp) (eqByteS_ev a a hl)

/-! ### spec_BitsAnd -/
def andL (a b : List Int) : List Int := List.zipWith (fun x y => Go.bits .and .u8 x y) a b
theorem zip_snoc (f : Int → Int → Int) (a b : List Int) (i : Nat) (ha : i < a.length) (hb : i < b.length) : List.zipWith f (a.take (i + 1)) (b.take (i + 1)) = List.zipWith f (a.take i) (b.take i) ++ [f a[i] b[i]] := by
  rw [List.take_succ_eq_append_getElem ha, List.take_succ_eq_append_getElem hb, List.zipWith_append (by simp; omega)]
  rfl
theorem spec_and_l0 (a b : List Int) (hl : a.length ≤ 1048576) (hab : a.length = b.length) : ∀ (d i : Nat), a.length - i = d → i ≤ a.length → Ev (fun k => spec_BitsAnd.l0 k a b (andL (a.take i) (b.take i)) (a.length : Int) (i : Int)) (andL a b) := by
  intro d
  induction d with
  | zero =>
    intro i hd hi
    refine Ev.step (fun _ => rfl) (ev_neg (by omega) (ev_some ?_))
    rw [List.take_of_length_le (by omega), List.take_of_length_le (by omega)]
  | succ d ih =>
    intro i hd hi
    have ha : i < a.length := by omega
    have hb : i < b.length := by omega
    have hlen : (andL (a.take i) (b.take i)).length ≤ i := by
      unfold andL
      rw [List.length_zipWith, List.length_take]
      omega
    refine Ev.step (fun _ => rfl) (ev_pos (by omega) (ev_pos (by omega) (ev_pos (by omega) (ev_pos (by omega) (ev_pos (by omega) ?_)))))
    rw [rd_at ha, rd_at hb, wrap_succ (by omega)]
    have := ih (i + 1) (by omega) (by omega)
    unfold andL at this ⊢
    rw [zip_snoc _ a b i ha hb] at this
    exact this
def bitsAnd (a b : List Int) : List Int := if a.length = b.length then andL a b else []
theorem spec_bitsAnd (a b : List Int) (hl : a.length ≤ 1048576) : Ev (fun k => spec_BitsAnd.f k a b) (bitsAnd a b) := by
  unfold spec_BitsAnd.f bitsAnd
  by_cases h : a.length = b.length
  · rw [if_pos h]
    exact ev_pos (by omega) (spec_and_l0 a b hl h _ 0 rfl (by omega))
  · rw [if_neg h]
    exact ev_neg (by omega) (Ev.now _)
theorem bitsAnd_length (a b : List Int) : (bitsAnd a b).length ≤ a.length := by
  unfold bitsAnd andL
  split
  · rw [List.length_zipWith]; omega
  · simp

/-! ### impl_BitsAnd -/
def andI (a b : List Int) : List Int := List.zipWith (fun x y => Go.bits .and .u8 x y) a b
theorem zip_snocI (f : Int → Int → Int) (a b : List Int) (i : Nat) (ha : i < a.length) (hb : i < b.length) : List.zipWith f (a.take (i + 1)) (b.take (i + 1)) = List.zipWith f (a.take i) (b.take i) ++ [f a[i] b[i]] := by
  rw [List.take_succ_eq_append_getElem ha, List.take_succ_eq_append_getElem hb, List.zipWith_append (by simp; omega)]
  rfl
theorem impl_and_l0 (a b : List Int) (hl : a.length ≤ 1048576) (hab : a.length = b.length) : ∀ (d i : Nat), a.length - i = d → i ≤ a.length → Ev (fun k => impl_eachAtBitsAndF1.l0 k a b (andI (a.take i) (b.take i)) (a.length : Int) (i : Int)) (andI a b) := by
  intro d
  induction d with
  | zero =>
    intro i hd hi
    refine Ev.step (fun _ => rfl) (ev_neg (by omega) (ev_some ?_))
    rw [List.take_of_length_le (by omega), List.take_of_length_le (by omega)]
  | succ d ih =>
    intro i hd hi
    have ha : i < a.length := by omega
    have hb : i < b.length := by omega
    have hlen : (andI (a.take i) (b.take i)).length ≤ i := by
      unfold andI
      rw [List.length_zipWith, List.length_take]
      omega
    refine Ev.step (fun _ => rfl) (ev_pos (by omega) (ev_pos (by omega) (ev_pos (by omega) (ev_pos (by omega) ?_))))
    rw [rd_at ha, rd_at hb, wrap_succ (by omega)]
    refine ev_bind0 rfl (ev_pos (by omega) ?_)
    have := ih (i + 1) (by omega) (by omega)
    unfold andI at this ⊢
    rw [zip_snocI _ a b i ha hb] at this
    exact this
def bitsAndI (a b : List Int) : List Int := if a.length = b.length then andI a b else []
theorem impl_bitsAnd (a b : List Int) (hl : a.length ≤ 1048576) : Ev (fun k => impl_BitsAnd.f k a b) (bitsAndI a b) := by
  unfold impl_BitsAnd.f impl_eachAtBitsAndF1.f bitsAndI
  refine Ev.bind (a := bitsAndI a b) ?_ (Ev.now _)
  unfold bitsAndI
  by_cases h : a.length = b.length
  · rw [if_pos h]
    exact ev_pos (by omega) (impl_and_l0 a b hl h _ 0 rfl (by omega))
  · rw [if_neg h]
    exact ev_neg (by omega) (Ev.now _)

attribute [local congr] bind_lazy ite_lazy
theorem FnExactBitsIn : laws_FnExactBitsIn.Pure := by
  intro a b _ _ _ _ _ _
  by_cases g1 : (a.length : Int) > 1048576
  · exact ⟨0, by simp only [laws_FnExactBitsIn.f, if_pos g1]⟩
  by_cases g2 : (b.length : Int) > 1048576
  · exact ⟨0, by simp only [laws_FnExactBitsIn.f, if_neg g1, if_pos g2]⟩
  obtain ⟨K1, e1⟩ := toByteS_ev a (by omega)
  obtain ⟨K2, e2⟩ := toByteS_ev b (by omega)
  obtain ⟨K3, e3⟩ := eqByteS_same a (by omega)
  obtain ⟨K4, e4⟩ := eqByteS_same b (by omega)
  obtain ⟨K5, e5⟩ := spec_bitsAnd a b (by omega)
  obtain ⟨K6, e6⟩ := impl_bitsAnd a b (by omega)
  have e : bitsAndI a b = bitsAnd a b := rfl
  rw [e] at e6
  have hs : ∃ s : Bool, ∀ k, K5 ≤ k → spec_BitsIn.f k a b = some s := by
    by_cases h : (a.length : Int) = (b.length : Int)
    · refine ⟨(strOfNums (bitsAnd a b)).toList == (strOfNums a).toList, fun k hk => ?_⟩
      simp only [spec_BitsIn.f, if_pos h, e5 k hk, bind_at, spec_SameBytes.f]
    · exact ⟨false, fun k _ => by simp only [spec_BitsIn.f, if_neg h]⟩
  obtain ⟨s, es⟩ := hs
  have ei : ∀ k, K5 ≤ k → K6 ≤ k → impl_BitsIn.f k a b = some s := by
    intro k h5 h6
    rw [← es k h5]
    by_cases h : (a.length : Int) = (b.length : Int)
    · simp only [spec_BitsIn.f, impl_BitsIn.f, if_pos h, e5 k h5, e6 k h6, bind_at, spec_SameBytes.f, impl_SameBytes.f]
    · simp only [spec_BitsIn.f, impl_BitsIn.f, if_neg h]
  refine ⟨K1 + K2 + K3 + K4 + K5 + K6, ?_⟩
  simp (disch := omega) only [laws_FnExactBitsIn.f, if_neg g1, if_neg g2, e1, e2, e3, e4, es, ei, bind_at, bne_self_eq_false, Bool.false_eq_true, if_true, if_false]

end Go.Proofs.Ytmjbfnolfkfnjaa.Pure
