/- The program's function answers what the reference's answers, for all arguments: the printed law comes to true. Conditions: those of the printed statement alone. -/
import Derived.Test.YtodnajlgjcoodaaPFnExactBitsHasx1
import Derived.Test.YtodnajlgjcoodaaLib
set_option linter.unusedVariables false
set_option linter.unusedSimpArgs false
set_option maxRecDepth 4000
namespace Go.Proofs.Ytodnajlgjcoodaa.Pure
open Go.RowKit Go.Proofs.Ytodnajlgjcoodaa.PFnExactBitsHas Go.Proofs.YtodnajlgjcoodaaW.PrintWords Go.Proofs.YtodnajlgjcoodaaW.PrintLast Go.Proofs.YtodnajlgjcoodaaW.PrintMore Go.Proofs.Ytodnajlgjcoodaa.Lib

/-! ### laws_toByteS -/
theorem toByteS_l0 (l : List Int) (hl : l.length ≤ 1048576) : ∀ (d i : Nat) (ys : List Int), l.length - i = d → i ≤ l.length → ys.length = l.length → ys.take i = l.take i → Ev (fun k => laws_toByteS.l0 k l ys (i : Int)) l := by
  intro d
  induction d with
  | zero =>
    intro i ys hd hi hy ht
    refine Ev.step (fun _ => rfl) (ev_neg (by omega) (ev_some ?_))
    rw [List.take_of_length_le (by omega), List.take_of_length_le (by omega)] at ht
    exact ht
  | succ d ih =>
    intro i ys hd hi hy ht
    refine Ev.step (fun _ => rfl) (ev_pos (by omega) (ev_pos (by omega) (ev_pos (by omega) ?_)))
    rw [wrap_succ (by omega), rd_at (show i < l.length by omega), Int.toNat_natCast]
    exact ih (i + 1) _ (by omega) (by omega) (by simpa using hy) (set_take_succ ys l i (by omega) (by omega) ht)
theorem toByteS_ev (l : List Int) (hl : l.length ≤ 1048576) : Ev (fun k => laws_toByteS.f k l) l := by
  unfold laws_toByteS.f
  refine ev_pos (by omega) (ev_pos (by omega) ?_)
  rw [Int.toNat_natCast]
  exact toByteS_l0 l hl _ 0 _ rfl (by omega) (by simp) (by simp)

/-! ### laws_eqByteS -/
theorem eqByteS_l0 (a b : List Int) (hl : a.length ≤ 9000000000000000000) (hab : a.length = b.length) : ∀ (d i : Nat), a.length - i = d → i ≤ a.length → a.take i = b.take i → Ev (fun k => laws_eqByteS.l0 k a b (i : Int)) (decide (a = b)) := by
  intro d
  induction d with
  | zero =>
    intro i hd hi ht
    refine Ev.step (fun _ => rfl) (ev_neg (by omega) (ev_some ?_))
    rw [List.take_of_length_le (by omega), List.take_of_length_le (by omega)] at ht
    simp [ht]
  | succ d ih =>
    intro i hd hi ht
    refine Ev.step (fun _ => rfl) (ev_pos (by omega) (ev_pos (by omega) (ev_pos (by omega) ?_)))
    have ha : i < a.length := by omega
    have hb : i < b.length := by omega
    rw [rd_at ha, rd_at hb]
    by_cases e : a[i] = b[i]
    · refine ev_pos e ?_
      rw [wrap_succ (by omega)]
      exact ih (i + 1) (by omega) (by omega) (by rw [List.take_succ_eq_append_getElem ha, List.take_succ_eq_append_getElem hb, ht, e])
    · refine ev_neg e (ev_some ?_)
      have : a ≠ b := fun h => e (by subst h; rfl)
      simp [this]
theorem eqByteS_ev (a b : List Int) (hl : a.length ≤ 9000000000000000000) : Ev (fun k => laws_eqByteS.f k a b) (decide (a = b)) := by
  unfold laws_eqByteS.f
  by_cases h : a.length = b.length
  · refine ev_pos (by omega) ?_
    exact eqByteS_l0 a b hl h _ 0 rfl (by omega) (by simp)
  · refine ev_neg (by omega) (ev_some ?_)
    have : a ≠ b := fun e => h (by rw [e])
    simp [this]
theorem eqByteS_same (a : List Int) (hl : a.length ≤ 9000000000000000000) : Ev (fun k => laws_eqByteS.f k a a) true := ev_eq (by simp) (eqByteS_ev a a hl)

/-! ### impl_BitsHas -/
theorem spec_bitsHas (l : List Int) (i : Int) (hb : Bytes l) (hl : l.length ≤ 1048576) (hi : -9223372036854775808 ≤ i ∧ i ≤ 9223372036854775807) : spec_BitsHas.f l i = some (bitOf l i) := by
  unfold spec_BitsHas.f bitOf
  by_cases h0 : 0 ≤ i
  · have ht : Int.tdiv i 8 = i / 8 := Int.tdiv_eq_ediv_of_nonneg h0
    have hm : Int.tmod i 8 = i % 8 := Int.tmod_eq_emod_of_nonneg h0
    rw [if_pos h0, ht, hm, wrap_in (by omega) (by omega)]
    by_cases h1 : i / 8 < (l.length : Int)
    · have hv := hb.val (i / 8)
      rw [if_pos h1, if_pos (by omega), if_pos (by omega), wrap_in (by omega) (by omega)]
      have h2 : i < 8 * (l.length : Int) := by omega
      have hs := shr_small8 (k := .i64) (rd l (i / 8)) (i % 8) (by omega) (by omega) (by decide)
      rw [hs]
      have hd : 0 ≤ rd l (i / 8) / 2 ^ (i % 8).toNat := Int.ediv_nonneg hv.1 (Int.pow_nonneg (by decide))
      rw [Int.tmod_eq_emod_of_nonneg hd]
      simp [h0, h2]
    · have h2 : ¬ i < 8 * (l.length : Int) := by omega
      rw [if_neg h1]
      simp [h2]
  · rw [if_neg h0]
    simp [h0]
theorem impl_bitsHas (l : List Int) (i : Int) (hb : Bytes l) (hl : l.length ≤ 1048576) (hi : -9223372036854775808 ≤ i ∧ i ≤ 9223372036854775807) : impl_BitsHas.f l i = some (bitOf l i) := by
  unfold impl_BitsHas.f bitOf impl_within.f
  rw [wrap_in (n := 8 * (l.length : Int)) (by omega) (by omega), wrap_in (by omega) (by omega)]
  by_cases h0 : 0 ≤ i
  · have ht : Int.tdiv i 8 = i / 8 := Int.tdiv_eq_ediv_of_nonneg h0
    have hm : Int.tmod i 8 = i % 8 := Int.tmod_eq_emod_of_nonneg h0
    rw [if_pos h0, ht, hm, wrap_in (n := i / 8) (by omega) (by omega)]
    by_cases h2 : i < 8 * (l.length : Int)
    · have hv := hb.val (i / 8)
      have hs := shr_small8 (k := .u8) (rd l (i / 8)) (i % 8) (by omega) (by omega) (by decide)
      have hd : 0 ≤ rd l (i / 8) / 2 ^ (i % 8).toNat := Int.ediv_nonneg hv.1 (Int.pow_nonneg (by decide))
      have hd2 : rd l (i / 8) / 2 ^ (i % 8).toNat < 256 := by
        have := Int.ediv_le_self (2 ^ (i % 8).toNat) hv.1
        omega
      have hx : Go.bits .and .u8 (rd l (i / 8) / 2 ^ (i % 8).toNat) 1 = rd l (i / 8) / 2 ^ (i % 8).toNat % 2 := bits_mask .u8 8 (by decide) wraps_u8 1 (by decide) _ hd (by omega)
      have hq : decide (i ≤ 8 * (l.length : Int) - 1) = true := by simp; omega
      simp only [hq, Option.bind_some, if_true]
      rw [if_pos (by omega), if_pos (by omega), if_pos (by omega), hs, hx]
      simp [h0, h2]
    · have hq : decide (i ≤ 8 * (l.length : Int) - 1) = false := by simp; omega
      simp only [hq, Option.bind_some]
      simp [h2]
  · rw [if_neg h0]
    simp [h0]
theorem bitsHas_both (l : List Int) (i : Int) (hb : Bytes l) (hl : l.length ≤ 1048576) (hi : -9223372036854775808 ≤ i ∧ i ≤ 9223372036854775807) : spec_BitsHas.f l i = some (bitOf l i) ∧ impl_BitsHas.f l i = some (bitOf l i) :=
  ⟨spec_bitsHas l i hb hl hi, impl_bitsHas l i hb hl hi⟩

theorem FnExactBitsHas : laws_FnExactBitsHas.Pure := by
  intro l i hm hr hw hi
  have hb := bytes_of_wf hw
  by_cases h1 : (l.length : Int) > 1048576
  · exact ⟨0, by simp only [laws_FnExactBitsHas.f, if_pos h1]⟩
  obtain ⟨K1, e1⟩ := toByteS_ev l (by omega)
  obtain ⟨K3, e3⟩ := eqByteS_same l (by omega)
  obtain ⟨e4, e5⟩ := bitsHas_both l i hb (by omega) (wf_i64.1 hi)
  refine ⟨K1 + K3, ?_⟩
  simp (disch := omega) only [laws_FnExactBitsHas.f, if_neg h1, e1, e3, e4, e5, Option.bind_some, bne_self_eq_false, if_true, Bool.false_eq_true, if_false]

end Go.Proofs.Ytodnajlgjcoodaa.Pure
