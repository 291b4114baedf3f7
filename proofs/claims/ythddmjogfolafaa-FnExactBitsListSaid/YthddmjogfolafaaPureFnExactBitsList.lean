/- The program's function answers what the reference's answers, for all arguments: the printed law comes to true. Conditions: those of the printed statement alone. -/
import Derived.Test.YthddmjogfolafaaPFnExactBitsListx2
import Derived.Test.YthddmjogfolafaaLib
import Derived.Test.YthddmjogfolafaaLibBits
set_option linter.unusedVariables false
set_option linter.unusedSimpArgs false
set_option maxRecDepth 4000
namespace Go.Proofs.Ythddmjogfolafaa.Pure
open Go.RowKit Go.Proofs.Ythddmjogfolafaa.PFnExactBitsList Go.Proofs.YthddmjogfolafaaW.PrintWords Go.Proofs.YthddmjogfolafaaW.PrintLast Go.Proofs.YthddmjogfolafaaW.PrintMore Go.Proofs.Ythddmjogfolafaa.Lib

/-! ### laws_toByteS -/
theorem toByteS_l0 (l : List Int) (hl : l.length ≤ 1048576) : ∀ (d i : Nat) (ys : List Int), l.length - i = d → i ≤ l.length → ys.length = l.length → ys.take i = l.take i → Ev (fun k => laws_toByteS.l0 k l ys (i : Int)) l := by
  intro d
  induction d with
  | zero =>
    intro i ys hd hi hy ht
    refine Ev.step (fun _ => rfl) (ev_neg (by omega) (ev_some ?_))
    rw [List.take_of_length_le (by omega), List.take_of_length_le (by omega)] at ht
    exact ht
  | succ d ih =>
    intro i ys hd hi hy ht
    refine Ev.step (fun _ => rfl) (ev_pos (by omega) (ev_pos (by omega) (ev_pos (by omega) ?_)))
    rw [wrap_succ (by omega), rd_at (show i < l.length by omega), Int.toNat_natCast]
    exact ih (i + 1) _ (by omega) (by omega) (by simpa using hy) (set_take_succ ys l i (by omega) (by omega) ht)
theorem toByteS_ev (l : List Int) (hl : l.length ≤ 1048576) : Ev (fun k => laws_toByteS.f k l) l := by
  unfold laws_toByteS.f
  refine ev_pos (by omega) (ev_pos (by omega) ?_)
  rw [Int.toNat_natCast]
  exact toByteS_l0 l hl _ 0 _ rfl (by omega) (by simp) (by simp)

/-! ### laws_eqByteS -/
theorem eqByteS_l0 (a b : List Int) (hl : a.length ≤ 9000000000000000000) (hab : a.length = b.length) : ∀ (d i : Nat), a.length - i = d → i ≤ a.length → a.take i = b.take i → Ev (fun k => laws_eqByteS.l0 k a b (i : Int)) (decide (a = b)) := by
  intro d
  induction d with
  | zero =>
    intro i hd hi ht
    refine Ev.step (fun _ => rfl) (ev_neg (by omega) (ev_some ?_))
    rw [List.take_of_length_le (by omega), List.take_of_length_le (by omega)] at ht
    simp [ht]
  | succ d ih =>
    intro i hd hi ht
    refine Ev.step (fun _ => rfl) (ev_pos (by omega) (ev_pos (by omega) (ev_pos (by omega) ?_)))
    have ha : i < a.length := by omega
    have hb : i < b.length := by omega
    rw [rd_at ha, rd_at hb]
    by_cases e : a[i] = b[i]
    · refine ev_pos e ?_
      rw [wrap_succ (by omega)]
      exact ih (i + 1) (by omega) (by omega) (by rw [List.take_succ_eq_append_getElem ha, List.take_succ_eq_append_getElem hb, ht, e])
    · refine ev_neg e (ev_some ?_)
      have : a ≠ b := fun h => e (by subst h; rfl)
      simp [this]
theorem eqByteS_ev (a b : List Int) (hl : a.length ≤ 9000000000000000000) : Ev (fun k => laws_eqByteS.f k a b) (decide (a = b)) := by
  unfold laws_eqByteS.f
  by_cases h : a.length = b.length
  · refine ev_pos (by omega) ?_
    exact eqByteS_l0 a b hl h _ 0 rfl (by omega) (by simp)
  · refine ev_neg (by omega) (ev_some ?_)
    have : a ≠ b := fun e => h (by rw [e])
    simp [this]
theorem eqByteS_same (a : List Int) (hl : a.length ≤ 9000000000000000000) : Ev (fun k => laws_eqByteS.f k a a) true := ev_eq (by simp) (eqByteS_ev a a hl)

/-! ### laws_markByteS -/
theorem markByteS_l0 (a : Int) (n : Nat) (h0 : 0 ≤ a) (h1 : a + n ≤ 9000000000000000000) : ∀ (d i : Nat) (ys : List Int), n - i = d → i ≤ n → ys.length = n → ys.take i = (marks a n).take i → Ev (fun k => laws_markByteS.l0 k ys (a + (i : Int)) (i : Int)) (a + (n : Int), marks a n) := by
  intro d
  induction d with
  | zero =>
    intro i ys hd hi hy ht
    refine Ev.step (fun _ => rfl) (ev_neg (by omega) (ev_some ?_))
    rw [List.take_of_length_le (by omega), List.take_of_length_le (by rw [marks_length]; omega)] at ht
    rw [ht, show i = n by omega]
  | succ d ih =>
    intro i ys hd hi hy ht
    refine Ev.step (fun _ => rfl) (ev_pos (by omega) (ev_pos (by omega) ?_))
    have hm : i < (marks a n).length := by rw [marks_length]; omega
    have e : (a + (i : Int)) % 256 = (marks a n)[i] := by rw [← rd_at hm, marks_at a n (by omega)]
    rw [wrap_succ (by omega), wrap_in (by omega) (by omega), show a + (i : Int) + 1 = a + ((i + 1 : Nat) : Int) by omega, e, Int.toNat_natCast]
    exact ih (i + 1) _ (by omega) (by omega) (by simpa using hy) (set_take_succ ys (marks a n) i (by omega) hm ht)
theorem markByteS_ev (l : List Int) (a : Int) (h0 : 0 ≤ a) (h1 : a + l.length ≤ 9000000000000000000) : Ev (fun k => laws_markByteS.f k l a) (a + (l.length : Int), marks a l.length) := by
  unfold laws_markByteS.f
  have := markByteS_l0 a l.length h0 h1 _ 0 l rfl (by omega) rfl (by simp)
  simpa using this

/-! ### spec_BitsList -/
theorem spec_has (l : List Int) (i : Int) (hb : Bytes l) (hl : l.length ≤ 1048576) (hi : -9223372036854775808 ≤ i ∧ i ≤ 9223372036854775807) : spec_BitsHas.f l i = some (bitOf l i) := by
  unfold spec_BitsHas.f bitOf
  by_cases h0 : 0 ≤ i
  · have ht : Int.tdiv i 8 = i / 8 := Int.tdiv_eq_ediv_of_nonneg h0
    have hm : Int.tmod i 8 = i % 8 := Int.tmod_eq_emod_of_nonneg h0
    rw [if_pos h0, ht, hm, wrap_in (by omega) (by omega)]
    by_cases h1 : i / 8 < (l.length : Int)
    · have hv := hb.val (i / 8)
      rw [if_pos h1, if_pos (by omega), if_pos (by omega), wrap_in (by omega) (by omega)]
      have h2 : i < 8 * (l.length : Int) := by omega
      have hs := shr_small8 (k := .i64) (rd l (i / 8)) (i % 8) (by omega) (by omega) (by decide)
      rw [hs]
      have hd : 0 ≤ rd l (i / 8) / 2 ^ (i % 8).toNat := Int.ediv_nonneg hv.1 (Int.pow_nonneg (by decide))
      rw [Int.tmod_eq_emod_of_nonneg hd]
      simp [h0, h2]
    · have h2 : ¬ i < 8 * (l.length : Int) := by omega
      rw [if_neg h1]
      simp [h2]
  · rw [if_neg h0]
    simp [h0]
theorem spec_bitsList_l0 (l : List Int) (hb : Bytes l) (hl : l.length ≤ 1048576) : ∀ (d i : Nat), 8 * l.length - i = d → i ≤ 8 * l.length → Ev (fun k => spec_BitsList.l0 k l (bitsTo l i) (i : Int)) (bitList l) := by
  intro d
  induction d with
  | zero =>
    intro i hd hi
    refine Ev.step (fun _ => rfl) (ev_neg (by rw [wrap_in (by omega) (by omega)]; omega) (ev_some ?_))
    rw [show i = 8 * l.length by omega]
    rfl
  | succ d ih =>
    intro i hd hi
    have hlen := bitsTo_length l i
    have := ih (i + 1) (by omega) (by omega)
    rw [bitsTo_succ] at this
    refine Ev.step (fun _ => rfl) (ev_pos (by rw [wrap_in (by omega) (by omega)]; omega) (ev_bind0 (spec_has l i hb hl (by omega)) ?_))
    rw [wrap_succ (by omega)]
    by_cases e : bitOf l (i : Int) = true
    · rw [if_pos e] at this
      exact ev_pos e (ev_pos (by omega) this)
    · rw [if_neg e] at this
      exact ev_neg e this
theorem spec_bitsList (l : List Int) (hb : Bytes l) (hl : l.length ≤ 1048576) : Ev (fun k => spec_BitsList.f k l) (bitList l) := spec_bitsList_l0 l hb hl _ 0 rfl (by omega)

/-! ### impl_BitsList -/
theorem impl_has (l : List Int) (i : Int) (hb : Bytes l) (hl : l.length ≤ 1048576) (hi : -9223372036854775808 ≤ i ∧ i ≤ 9223372036854775807) : impl_BitsHas.f l i = some (bitOf l i) := by
  unfold impl_BitsHas.f bitOf impl_within.f
  rw [wrap_in (n := 8 * (l.length : Int)) (by omega) (by omega), wrap_in (by omega) (by omega)]
  by_cases h0 : 0 ≤ i
  · have ht : Int.tdiv i 8 = i / 8 := Int.tdiv_eq_ediv_of_nonneg h0
    have hm : Int.tmod i 8 = i % 8 := Int.tmod_eq_emod_of_nonneg h0
    rw [if_pos h0, ht, hm, wrap_in (n := i / 8) (by omega) (by omega)]
    by_cases h2 : i < 8 * (l.length : Int)
    · have hv := hb.val (i / 8)
      have hs := shr_small8 (k := .u8) (rd l (i / 8)) (i % 8) (by omega) (by omega) (by decide)
      have hd : 0 ≤ rd l (i / 8) / 2 ^ (i % 8).toNat := Int.ediv_nonneg hv.1 (Int.pow_nonneg (by decide))
      have hd2 : rd l (i / 8) / 2 ^ (i % 8).toNat < 256 := by
        have := Int.ediv_le_self (2 ^ (i % 8).toNat) hv.1
        omega
      have hx : Go.bits .and .u8 (rd l (i / 8) / 2 ^ (i % 8).toNat) 1 = rd l (i / 8) / 2 ^ (i % 8).toNat % 2 := bits_mask .u8 8 (by decide) wraps_u8 1 (by decide) _ hd (by omega)
      have hq : decide (i ≤ 8 * (l.length : Int) - 1) = true := by simp; omega
      simp only [hq, Option.bind_some, if_true]
      rw [if_pos (by omega), if_pos (by omega), if_pos (by omega), hs, hx]
      simp [h0, h2]
    · have hq : decide (i ≤ 8 * (l.length : Int) - 1) = false := by simp; omega
      simp only [hq, Option.bind_some]
      simp [h2]
  · rw [if_neg h0]
    simp [h0]
theorem impl_bitsList_l0 (l : List Int) (hb : Bytes l) (hl : l.length ≤ 1048576) : ∀ (d i : Nat), 8 * l.length - i = d → i ≤ 8 * l.length → Ev (fun k => impl_BitsList.l0 k l (bitsTo l i) (8 * (l.length : Int)) (i : Int)) (bitList l) := by
  intro d
  induction d with
  | zero =>
    intro i hd hi
    refine Ev.step (fun _ => rfl) (ev_neg (by omega) (ev_some ?_))
    rw [show i = 8 * l.length by omega]
    rfl
  | succ d ih =>
    intro i hd hi
    have hlen := bitsTo_length l i
    have := ih (i + 1) (by omega) (by omega)
    rw [bitsTo_succ] at this
    refine Ev.step (fun _ => rfl) (ev_pos (by omega) (ev_bind0 (impl_has l i hb hl (by omega)) ?_))
    rw [wrap_succ (by omega)]
    by_cases e : bitOf l (i : Int) = true
    · rw [if_pos e] at this
      exact ev_pos e (ev_pos (by omega) this)
    · rw [if_neg e] at this
      exact ev_neg e this
theorem impl_bitsList (l : List Int) (hb : Bytes l) (hl : l.length ≤ 1048576) : Ev (fun k => impl_BitsList.f k l) (bitList l) := by
  unfold impl_BitsList.f
  rw [wrap_in (by omega) (by omega)]
  exact impl_bitsList_l0 l hb hl _ 0 rfl (by omega)

/-! ### laws_eqIntS -/
theorem eqIntS_l0 (a b : List Int) (hl : a.length ≤ 9000000000000000000) (hab : a.length = b.length) : ∀ (d i : Nat), a.length - i = d → i ≤ a.length → a.take i = b.take i → Ev (fun k => laws_eqIntS.l0 k a b (i : Int)) (decide (a = b)) := by
  intro d
  induction d with
  | zero =>
    intro i hd hi ht
    refine Ev.step (fun _ => rfl) (ev_neg (by omega) (ev_some ?_))
    rw [List.take_of_length_le (by omega), List.take_of_length_le (by omega)] at ht
    simp [ht]
  | succ d ih =>
    intro i hd hi ht
    refine Ev.step (fun _ => rfl) (ev_pos (by omega) (ev_pos (by omega) (ev_pos (by omega) ?_)))
    have ha : i < a.length := by omega
    have hb : i < b.length := by omega
    rw [rd_at ha, rd_at hb]
    by_cases e : a[i] = b[i]
    · refine ev_pos e ?_
      rw [wrap_succ (by omega)]
      exact ih (i + 1) (by omega) (by omega) (by rw [List.take_succ_eq_append_getElem ha, List.take_succ_eq_append_getElem hb, ht, e])
    · refine ev_neg e (ev_some ?_)
      have : a ≠ b := fun h => e (by subst h; rfl)
      simp [this]
theorem eqIntS_ev (a b : List Int) (hl : a.length ≤ 9000000000000000000) : Ev (fun k => laws_eqIntS.f k a b) (decide (a = b)) := by
  unfold laws_eqIntS.f
  by_cases h : a.length = b.length
  · refine ev_pos (by omega) ?_
    exact eqIntS_l0 a b hl h _ 0 rfl (by omega) (by simp)
  · refine ev_neg (by omega) (ev_some ?_)
    have : a ≠ b := fun e => h (by rw [e])
    simp [this]
theorem eqIntS_same (a : List Int) (hl : a.length ≤ 9000000000000000000) : Ev (fun k => laws_eqIntS.f k a a) true := ev_eq (by simp) (eqIntS_ev a a hl)

/-! ### laws_markIntS -/
theorem markIntS_l0 (a : Int) (n : Nat) (h0 : 0 ≤ a) (h1 : a + n ≤ 9000000000000000000) : ∀ (d i : Nat) (ys : List Int), n - i = d → i ≤ n → ys.length = n → ys.take i = (marksI a n).take i → Ev (fun k => laws_markIntS.l0 k ys (a + (i : Int)) (i : Int)) (a + (n : Int), marksI a n) := by
  intro d
  induction d with
  | zero =>
    intro i ys hd hi hy ht
    refine Ev.step (fun _ => rfl) (ev_neg (by omega) (ev_some ?_))
    rw [List.take_of_length_le (by omega), List.take_of_length_le (by rw [marksI_length]; omega)] at ht
    rw [ht, show i = n by omega]
  | succ d ih =>
    intro i ys hd hi hy ht
    refine Ev.step (fun _ => rfl) (ev_pos (by omega) (ev_pos (by omega) ?_))
    have hm : i < (marksI a n).length := by rw [marksI_length]; omega
    have e : a + (i : Int) = (marksI a n)[i] := by rw [← rd_at hm, marksI_at a n (by omega)]
    rw [wrap_succ (by omega), wrap_in (by omega) (by omega), show a + (i : Int) + 1 = a + ((i + 1 : Nat) : Int) by omega, e, Int.toNat_natCast]
    exact ih (i + 1) _ (by omega) (by omega) (by simpa using hy) (set_take_succ ys (marksI a n) i (by omega) hm ht)
theorem markIntS_ev (l : List Int) (a : Int) (h0 : 0 ≤ a) (h1 : a + l.length ≤ 9000000000000000000) : Ev (fun k => laws_markIntS.f k l a) (a + (l.length : Int), marksI a l.length) := by
  unfold laws_markIntS.f
  have := markIntS_l0 a l.length h0 h1 _ 0 l rfl (by omega) rfl (by simp)
  simpa using this

/-! ### laws_heldIntS -/
theorem heldIntS_l0 (a : Int) (n : Nat) (h0 : 0 ≤ a) (h1 : a + n ≤ 9000000000000000000) : ∀ (d i : Nat), n - i = d → i ≤ n → Ev (fun k => laws_heldIntS.l0 k (marksI a n) (a + (i : Int)) (i : Int)) (a + (n : Int)) := by
  intro d
  induction d with
  | zero =>
    intro i hd hi
    refine Ev.step (fun _ => rfl) (ev_neg (by rw [marksI_length]; omega) (ev_some ?_))
    rw [show i = n by omega]
  | succ d ih =>
    intro i hd hi
    refine Ev.step (fun _ => rfl) (ev_pos (by rw [marksI_length]; omega) (ev_pos (by omega) (ev_pos (marksI_at a n (by omega)) ?_)))
    rw [wrap_succ (by omega), wrap_in (by omega) (by omega), show a + (i : Int) + 1 = a + ((i + 1 : Nat) : Int) by omega]
    exact ih (i + 1) (by omega) (by omega)
theorem heldIntS_ev (a : Int) (n : Nat) (h0 : 0 ≤ a) (h1 : a + n ≤ 9000000000000000000) : Ev (fun k => laws_heldIntS.f k (marksI a n) a) (a + (n : Int)) := by
  unfold laws_heldIntS.f
  have := heldIntS_l0 a n h0 h1 _ 0 rfl (by omega)
  simpa using this

attribute [local congr] bind_lazy ite_lazy
theorem FnExactBitsList : laws_FnExactBitsList.Pure := by
  intro l _ _ hw_l
  have hb_l := bytes_of_wf hw_l
  by_cases g_l : (l.length : Int) > 1048576
  · exact ⟨0, by simp only [laws_FnExactBitsList.f, if_pos g_l]⟩
  obtain ⟨K0, t_l⟩ := toByteS_ev l (by omega)
  obtain ⟨K1, q_l⟩ := eqByteS_same l (by omega)
  obtain ⟨K2, es⟩ := spec_bitsList l hb_l (by omega)
  obtain ⟨K3, ei⟩ := impl_bitsList l hb_l (by omega)
  have hr0 := bitList_length l
  generalize bitList l = r at es ei hr0
  obtain ⟨K4, m_l⟩ := markByteS_ev l (1) (by omega) (by omega)
  have neg0 : ¬ (1 + (l.length : Int) < 0) := by omega
  obtain ⟨K5, q_r⟩ := eqIntS_same r (by omega)
  obtain ⟨K6, m_r⟩ := markIntS_ev r (1) (by omega) (by omega)
  obtain ⟨K7, h_r⟩ := heldIntS_ev (1) r.length (by omega) (by omega)
  have neg1 : ¬ (1 + (r.length : Int) < 0) := by omega
  refine ⟨K0 + K1 + K2 + K3 + K4 + K5 + K6 + K7 + 4, ?_⟩
  simp (disch := omega) only [laws_FnExactBitsList.f, laws_FnExactBitsList.j0, if_neg g_l, t_l, q_l, es, ei, m_l, q_r, m_r, h_r, if_neg neg0, if_neg neg1, bind_at, bne_self_eq_false, Bool.not_true, Bool.not_false, Bool.false_eq_true, if_true, if_false]

end Go.Proofs.Ythddmjogfolafaa.Pure
