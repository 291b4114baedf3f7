/- The program's function answers what the reference's answers, for all arguments: the printed law comes to true. Conditions: those of the printed statement alone. -/
import Derived.Test.YtmjbfnolfkfnjaaQFnExactBitsCountx1
import Derived.Test.YtmjbfnolfkfnjaaLib
import Derived.Test.YtmjbfnolfkfnjaaLibBits
set_option linter.unusedVariables false
set_option linter.unusedSimpArgs false
set_option maxRecDepth 4000
namespace Go.Proofs.Ytmjbfnolfkfnjaa.Pure
open Go.RowKit Go.Proofs.Ytmjbfnolfkfnjaa.QFnExactBitsCount Go.Proofs.YtmjbfnolfkfnjaaW.PrintWords Go.Proofs.YtmjbfnolfkfnjaaW.PrintLast Go.Proofs.YtmjbfnolfkfnjaaW.PrintMore Go.Proofs.Ytmjbfnolfkfnjaa.Lib

/-! ### spec_BitsList -/
theorem spec_has (l : List Int) (i : Int) (hb : Bytes l) (hl : l.length ≤ 1048576) (hi : -9223372036854775808 ≤ i ∧ i ≤ 9223372036854775807) : spec_BitsHas.f l i = some (bitOf l i) := by
  unfold spec_BitsHas.f bitOf
  by_cases h0 : 0 ≤ i
  · have ht : Int.tdiv i 8 = i / 8 := Int.tdiv_eq_ediv_of_nonneg h0
    have hm : Int.tmod i 8 = i % 8 := Int.tmod_eq_emod_of_nonneg h0
    rw [if_pos h0, ht, hm, wrap_in (by omega) (by omega)]
    by_cases h1 : i / 8 < (l.length : Int)
    · have hv := hb.val (i / 8)
      rw [if_pos h1, if_pos (by omega), if_pos (by omega), wrap_in (by omega) (by omega)]
      have h2 : i < 8 * (l.length : Int) := by omega
      have hs := shr_small8 (k := .i64) (rd l (i / 8)) (i % 8) (by omega) (by omega) (by decide)
      rw [hs]
      have hd : 0 ≤ rd l (i / 8) / 2 ^ (i % 8).toNat := Int.ediv_nonneg hv.1 (Int.pow_nonneg (by decide))
      rw [Int.tmod_eq_emod_of_nonneg hd]
      simp [h0, h2]
    · have h2 : ¬ i < 8 * (l.length : Int) := by omega
      rw [if_neg h1]
      simp [h2]
  · rw [if_neg h0]
    simp [h0]
theorem spec_bitsList_l0 (l : List Int) (hb : Bytes l) (hl : l.length ≤ 1048576) : ∀ (d i : Nat), 8 * l.length - i = d → i ≤ 8 * l.length → Ev (fun k => spec_BitsList.l0 k l (bitsTo l i) (i : Int)) (bitList l) := by
  intro d
  induction d with
  | zero =>
    intro i hd hi
    refine Ev.step (fun _ => rfl) (ev_neg (by rw [wrap_in (by omega) (by omega)]; omega) (ev_some ?_))
    rw [show i = 8 * l.length by omega]
    rfl
  | succ d ih =>
    intro i hd hi
    have hlen := bitsTo_length l i
    have := ih (i + 1) (by omega) (by omega)
    rw [bitsTo_succ] at this
    refine Ev.step (fun _ => rfl) (ev_pos (by rw [wrap_in (by omega) (by omega)]; omega) (ev_bind0 (spec_has l i hb hl (by omega)) ?_))
    rw [wrap_succ (by omega)]
    by_cases e : bitOf l (i : Int) = true
    · rw [if_pos e] at this
      exact ev_pos e (ev_pos (by omega) this)
    · rw [if_neg e] at this
      exact ev_neg e this
theorem spec_bitsList (l : List Int) (hb : Bytes l) (hl : l.length ≤ 1048576) : Ev (fun k => spec_BitsList.f k l) (bitList l) := spec_bitsList_l0 l hb hl _ 0 rfl (by omega)

/-! ### laws_toByteS -/
theorem toByteS_l0 (l : List Int) (hl : l.length ≤ 1048576) : ∀ (d i : Nat) (ys : List Int), l.length - i = d → i ≤ l.length → ys.length = l.length → ys.take i = l.take i → Ev (fun k => laws_toByteS.l0 k l ys (i : Int)) l := by
  intro d
  induction d with
  | zero =>
    intro i ys hd hi hy ht
    refine Ev.step (fun _ => rfl) (ev_neg (by omega) (ev_some ?_))
    rw [List.take_of_length_le (by omega), List.take_of_length_le (by omega)] at ht
    exact ht
  | succ d ih =>
    intro i ys hd hi hy ht
    refine Ev.step (fun _ => rfl) (ev_pos (by omega) (ev_pos (by omega) (ev_pos (by omega) ?_)))
    rw [wrap_succ (by omega), rd_at (show i < l.length by omega), Int.toNat_natCast]
    exact ih (i + 1) _ (by omega) (by omega) (by simpa using hy) (set_take_succ ys l i (by omega) (by omega) ht)
theorem toByteS_ev (l : List Int) (hl : l.length ≤ 1048576) : Ev (fun k => laws_toByteS.f k l) l := by
  unfold laws_toByteS.f
  refine ev_pos (by omega) (ev_pos (by omega) ?_)
  rw [Int.toNat_natCast]
  exact toByteS_l0 l hl _ 0 _ rfl (by omega) (by simp) (by simp)

/-! ### impl_BitsCount -/
def pop (x : Int) : Int := x / 2 ^ 0 % 2 + x / 2 ^ 1 % 2 + x / 2 ^ 2 % 2 + x / 2 ^ 3 % 2 + x / 2 ^ 4 % 2 + x / 2 ^ 5 % 2 + x / 2 ^ 6 % 2 + x / 2 ^ 7 % 2
theorem ones_all : ∀ x : Fin 256, bits_OnesCount8.f (x.val : Int) = some (pop (x.val : Int)) ∧ 0 ≤ pop (x.val : Int) ∧ pop (x.val : Int) ≤ 8 := by decide +kernel
theorem ones_eq (x : Int) (h0 : 0 ≤ x) (h1 : x ≤ 255) : bits_OnesCount8.f x = some (pop x) ∧ 0 ≤ pop x ∧ pop x ≤ 8 := by
  have := ones_all ⟨x.toNat, by omega⟩
  simpa only [Int.toNat_of_nonneg h0] using this
theorem bitsTo_one (l : List Int) (n : Nat) : ((bitsTo l (n + 1)).length : Int) = (bitsTo l n).length + (if bitOf l (n : Int) = true then 1 else 0) := by
  rw [bitsTo_succ]
  split
  · simp
  · simp
theorem bit_num (l : List Int) (m j : Nat) (hm : m < l.length) (hj : j < 8) : (if bitOf l ((8 * m + j : Nat) : Int) = true then (1 : Int) else 0) = l[m] / 2 ^ j % 2 := by
  unfold bitOf
  rw [decide_eq_true (by omega), decide_eq_true (by omega), show ((8 * m + j : Nat) : Int) / 8 = (m : Int) by omega, rd_at hm, show (((8 * m + j : Nat) : Int) % 8).toNat = j by omega]
  simp only [Bool.true_and, beq_iff_eq]
  split <;> omega
theorem bitsTo_byte (l : List Int) (m : Nat) (hm : m < l.length) : ((bitsTo l (8 * (m + 1))).length : Int) = (bitsTo l (8 * m)).length + pop l[m] := by
  have b := fun j hj => bit_num l m j hm hj
  rw [show 8 * (m + 1) = 8 * m + 7 + 1 by omega, bitsTo_one, b 7 (by omega), bitsTo_one, b 6 (by omega), bitsTo_one, b 5 (by omega), bitsTo_one, b 4 (by omega), bitsTo_one, b 3 (by omega), bitsTo_one, b 2 (by omega), bitsTo_one, b 1 (by omega), bitsTo_one, show 8 * m = 8 * m + 0 from rfl, b 0 (by omega)]
  unfold pop
  omega
theorem impl_bitsCount_l0 (l : List Int) (hb : Bytes l) (hl : l.length ≤ 1048576) : ∀ (d i : Nat), l.length - i = d → i ≤ l.length → Ev (fun k => impl_BitsCount.l0 k ((bitsTo l (8 * i)).length : Int) l (l.length : Int) (i : Int)) ((bitList l).length : Int) := by
  intro d
  induction d with
  | zero =>
    intro i hd hi
    refine Ev.step (fun _ => rfl) (ev_neg (by omega) (ev_some ?_))
    rw [show i = l.length by omega]
    rfl
  | succ d ih =>
    intro i hd hi
    have hi' : i < l.length := by omega
    have hv := hb l[i] (List.getElem_mem hi')
    obtain ⟨o1, o2, o3⟩ := ones_eq l[i] hv.1 hv.2
    have hlen := bitsTo_length l (8 * i)
    refine Ev.step (fun _ => rfl) (ev_pos (by omega) (ev_pos (by omega) (ev_pos (by omega) ?_)))
    rw [rd_at hi']
    refine ev_bind0 o1 ?_
    rw [wrap_succ (by omega), wrap_in (by omega) (by omega), ← bitsTo_byte l i hi']
    exact ih (i + 1) (by omega) (by omega)
theorem impl_bitsCount (l : List Int) (hb : Bytes l) (hl : l.length ≤ 1048576) : Ev (fun k => impl_BitsCount.f k l) ((bitList l).length : Int) := impl_bitsCount_l0 l hb hl _ 0 rfl (by omega)

/-! ### laws_eqByteS -/
theorem eqByteS_l0 (a b : List Int) (hl : a.length ≤ 9000000000000000000) (hab : a.length = b.length) : ∀ (d i : Nat), a.length - i = d → i ≤ a.length → a.take i = b.take i → Ev (fun k => laws_eqByteS.l0 k a b (i : Int)) (decide (a = b)) := by
  intro d
  induction d with
  | zero =>
    intro i hd hi ht
    refine Ev.step (fun _ => rfl) (ev_neg (by omega) (ev_some ?_))
    rw [List.take_of_length_le (by omega), List.take_of_length_le (by omega)] at ht
    simp [ht]
  | succ d ih =>
    intro i hd hi ht
    refine Ev.step (fun _ => rfl) (ev_pos (by omega) (ev_pos (by omega) (ev_pos (by omega) ?_)))
    have ha : i < a.length := by omega
    have hb : i < b.length := by omega
    rw [rd_at ha, rd_at hb]
    by_cases e : a[i] = b[i]
    · refine ev_pos e ?_
      rw [wrap_succ (by omega)]
      exact ih (i + 1) (by omega) (by omega) (by rw [List.take_succ_eq_append_getElem ha, List.take_succ_eq_append_getElem hb, ht, e])
    · refine ev_neg e (ev_some ?_)
      have : a ≠ b := fun h => e (by subst h; rfl)
      simp [this]
theorem eqByteS_ev (a b : List Int) (hl : a.length ≤ 9000000000000000000) : Ev (fun k => laws_eqByteS.f k a b) (decide (a = b)) := by
  unfold laws_eqByteS.f
  by_cases h : a.length = b.length
  · refine ev_pos (by omega) ?_
    exact eqByteS_l0 a b hl h _ 0 rfl (by omega) (by simp)
  · refine ev_neg (by omega) (ev_some ?_)
    have : a ≠ b := fun e => h (by rw [e])
    simp [this]
theorem eqByteS_same (a : List Int) (hl : a.length ≤ 9000000000000000000) : Ev (fun k => laws_eqByteS.f k a a) true := ev_eq (by simp) (eqByteS_ev a a hl)

attribute [local congr] bind_lazy ite_lazy
theorem FnExactBitsCount : laws_FnExactBitsCount.Pure := by
  intro l _ _ hw
  have hb := bytes_of_wf hw
  by_cases h1 : (l.length : Int) > 1048576
  · exact ⟨0, by simp only [laws_FnExactBitsCount.f, if_pos h1]⟩
  obtain ⟨K1, e1⟩ := toByteS_ev l (by omega)
  obtain ⟨K2, e2⟩ := eqByteS_same l (by omega)
  obtain ⟨K3, e3⟩ := spec_bitsList l hb (by omega)
  obtain ⟨K4, e4⟩ := impl_bitsCount l hb (by omega)
  refine ⟨K1 + K2 + K3 + K4, ?_⟩
  simp (disch := omega) only [laws_FnExactBitsCount.f, spec_BitsCount.f, if_neg h1, e1, e2, e3, e4, bind_at, if_true]

end Go.Proofs.Ytmjbfnolfkfnjaa.Pure
