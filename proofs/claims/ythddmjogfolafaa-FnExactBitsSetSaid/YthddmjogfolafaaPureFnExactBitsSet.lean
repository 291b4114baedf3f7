/- The program's function answers what the reference's answers, for all arguments: the printed law comes to true. Conditions: those of the printed statement alone. -/
import Derived.Test.YthddmjogfolafaaQFnExactBitsSetx4
import Derived.Test.YthddmjogfolafaaLib
import Derived.Test.YthddmjogfolafaaLibBits
set_option linter.unusedVariables false
set_option linter.unusedSimpArgs false
set_option maxRecDepth 4000
namespace Go.Proofs.Ythddmjogfolafaa.Pure
open Go.RowKit Go.Proofs.Ythddmjogfolafaa.QFnExactBitsSet Go.Proofs.YthddmjogfolafaaW.PrintWords Go.Proofs.YthddmjogfolafaaW.PrintLast Go.Proofs.YthddmjogfolafaaW.PrintMore Go.Proofs.Ythddmjogfolafaa.Lib

/-! ### laws_toByteS -/
theorem toByteS_l0 (l : List Int) (hl : l.length ≤ 1048576) : ∀ (d i : Nat) (ys : List Int), l.length - i = d → i ≤ l.length → ys.length = l.length → ys.take i = l.take i → Ev (fun k => laws_toByteS.l0 k l ys (i : Int)) l := by
  intro d
  induction d with
  | zero =>
    intro i ys hd hi hy ht
    refine Ev.step (fun _ => rfl) (ev_neg (by omega) (ev_some ?_))
    rw [List.take_of_length_le (by omega), List.take_of_length_le (by omega)] at ht
    exact ht
  | succ d ih =>
    intro i ys hd hi hy ht
    refine Ev.step (fun _ => rfl) (ev_pos (by omega) (ev_pos (by omega) (ev_pos (by omega) ?_)))
    rw [wrap_succ (by omega), rd_at (show i < l.length by omega), Int.toNat_natCast]
    exact ih (i + 1) _ (by omega) (by omega) (by simpa using hy) (set_take_succ ys l i (by omega) (by omega) ht)
theorem toByteS_ev (l : List Int) (hl : l.length ≤ 1048576) : Ev (fun k => laws_toByteS.f k l) l := by
  unfold laws_toByteS.f
  refine ev_pos (by omega) (ev_pos (by omega) ?_)
  rw [Int.toNat_natCast]
  exact toByteS_l0 l hl _ 0 _ rfl (by omega) (by simp) (by simp)

/-! ### laws_eqByteS -/
theorem eqByteS_l0 (a b : List Int) (hl : a.length ≤ 9000000000000000000) (hab : a.length = b.length) : ∀ (d i : Nat), a.length - i = d → i ≤ a.length → a.take i = b.take i → Ev (fun k => laws_eqByteS.l0 k a b (i : Int)) (decide (a = b)) := by
  intro d
  induction d with
  | zero =>
    intro i hd hi ht
    refine Ev.step (fun _ => rfl) (ev_neg (by omega) (ev_some ?_))
    rw [List.take_of_length_le (by omega), List.take_of_length_le (by omega)] at ht
    simp [ht]
  | succ d ih =>
    intro i hd hi ht
    refine Ev.step (fun _ => rfl) (ev_pos (by omega) (ev_pos (by omega) (ev_pos (by omega) ?_)))
    have ha : i < a.length := by omega
    have hb : i < b.length := by omega
    rw [rd_at ha, rd_at hb]
    by_cases e : a[i] = b[i]
    · refine ev_pos e ?_
      rw [wrap_succ (by omega)]
      exact ih (i + 1) (by omega) (by omega) (by rw [List.take_succ_eq_append_getElem ha, List.take_succ_eq_append_getElem hb, ht, e])
    · refine ev_neg e (ev_some ?_)
      have : a ≠ b := fun h => e (by subst h; rfl)
      simp [this]
theorem eqByteS_ev (a b : List Int) (hl : a.length ≤ 9000000000000000000) : Ev (fun k => laws_eqByteS.f k a b) (decide (a = b)) := by
  unfold laws_eqByteS.f
  by_cases h : a.length = b.length
  · refine ev_pos (by omega) ?_
    exact eqByteS_l0 a b hl h _ 0 rfl (by omega) (by simp)
  · refine ev_neg (by omega) (ev_some ?_)
    have : a ≠ b := fun e => h (by rw [e])
    simp [this]
theorem eqByteS_same (a : List Int) (hl : a.length ≤ 9000000000000000000) : Ev (fun k => laws_eqByteS.f k a a) true := ev_eq (by simp) (eqByteS_ev a a hl)

/-! ### laws_markByteS -/
theorem markByteS_l0 (a : Int) (n : Nat) (h0 : 0 ≤ a) (h1 : a + n ≤ 9000000000000000000) : ∀ (d i : Nat) (ys : List Int), n - i = d → i ≤ n → ys.length = n → ys.take i = (marks a n).take i → Ev (fun k => laws_markByteS.l0 k ys (a + (i : Int)) (i : Int)) (a + (n : Int), marks a n) := by
  intro d
  induction d with
  | zero =>
    intro i ys hd hi hy ht
    refine Ev.step (fun _ => rfl) (ev_neg (by omega) (ev_some ?_))
    rw [List.take_of_length_le (by omega), List.take_of_length_le (by rw [marks_length]; omega)] at ht
    rw [ht, show i = n by omega]
  | succ d ih =>
    intro i ys hd hi hy ht
    refine Ev.step (fun _ => rfl) (ev_pos (by omega) (ev_pos (by omega) ?_))
    have hm : i < (marks a n).length := by rw [marks_length]; omega
    have e : (a + (i : Int)) % 256 = (marks a n)[i] := by rw [← rd_at hm, marks_at a n (by omega)]
    rw [wrap_succ (by omega), wrap_in (by omega) (by omega), show a + (i : Int) + 1 = a + ((i + 1 : Nat) : Int) by omega, e, Int.toNat_natCast]
    exact ih (i + 1) _ (by omega) (by omega) (by simpa using hy) (set_take_succ ys (marks a n) i (by omega) hm ht)
theorem markByteS_ev (l : List Int) (a : Int) (h0 : 0 ≤ a) (h1 : a + l.length ≤ 9000000000000000000) : Ev (fun k => laws_markByteS.f k l a) (a + (l.length : Int), marks a l.length) := by
  unfold laws_markByteS.f
  have := markByteS_l0 a l.length h0 h1 _ 0 l rfl (by omega) rfl (by simp)
  simpa using this

/-! ### laws_heldByteS -/
theorem heldByteS_l0 (a : Int) (n : Nat) (h0 : 0 ≤ a) (h1 : a + n ≤ 9000000000000000000) : ∀ (d i : Nat), n - i = d → i ≤ n → Ev (fun k => laws_heldByteS.l0 k (marks a n) (a + (i : Int)) (i : Int)) (a + (n : Int)) := by
  intro d
  induction d with
  | zero =>
    intro i hd hi
    refine Ev.step (fun _ => rfl) (ev_neg (by rw [marks_length]; omega) (ev_some ?_))
    rw [show i = n by omega]
  | succ d ih =>
    intro i hd hi
    refine Ev.step (fun _ => rfl) (ev_pos (by rw [marks_length]; omega) (ev_pos (by omega) (ev_pos (marks_at a n (by omega)) ?_)))
    rw [wrap_succ (by omega), wrap_in (by omega) (by omega), show a + (i : Int) + 1 = a + ((i + 1 : Nat) : Int) by omega]
    exact ih (i + 1) (by omega) (by omega)
theorem heldByteS_ev (a : Int) (n : Nat) (h0 : 0 ≤ a) (h1 : a + n ≤ 9000000000000000000) : Ev (fun k => laws_heldByteS.f k (marks a n) a) (a + (n : Int)) := by
  unfold laws_heldByteS.f
  have := heldByteS_l0 a n h0 h1 _ 0 rfl (by omega)
  simpa using this

/-! ### spec_BitsList -/
theorem spec_has (l : List Int) (i : Int) (hb : Bytes l) (hl : l.length ≤ 1048576) (hi : -9223372036854775808 ≤ i ∧ i ≤ 9223372036854775807) : spec_BitsHas.f l i = some (bitOf l i) := by
  unfold spec_BitsHas.f bitOf
  by_cases h0 : 0 ≤ i
  · have ht : Int.tdiv i 8 = i / 8 := Int.tdiv_eq_ediv_of_nonneg h0
    have hm : Int.tmod i 8 = i % 8 := Int.tmod_eq_emod_of_nonneg h0
    rw [if_pos h0, ht, hm, wrap_in (by omega) (by omega)]
    by_cases h1 : i / 8 < (l.length : Int)
    · have hv := hb.val (i / 8)
      rw [if_pos h1, if_pos (by omega), if_pos (by omega), wrap_in (by omega) (by omega)]
      have h2 : i < 8 * (l.length : Int) := by omega
      have hs := shr_small8 (k := .i64) (rd l (i / 8)) (i % 8) (by omega) (by omega) (by decide)
      rw [hs]
      have hd : 0 ≤ rd l (i / 8) / 2 ^ (i % 8).toNat := Int.ediv_nonneg hv.1 (Int.pow_nonneg (by decide))
      rw [Int.tmod_eq_emod_of_nonneg hd]
      simp [h0, h2]
    · have h2 : ¬ i < 8 * (l.length : Int) := by omega
      rw [if_neg h1]
      simp [h2]
  · rw [if_neg h0]
    simp [h0]
theorem spec_bitsList_l0 (l : List Int) (hb : Bytes l) (hl : l.length ≤ 1048576) : ∀ (d i : Nat), 8 * l.length - i = d → i ≤ 8 * l.length → Ev (fun k => spec_BitsList.l0 k l (bitsTo l i) (i : Int)) (bitList l) := by
  intro d
  induction d with
  | zero =>
    intro i hd hi
    refine Ev.step (fun _ => rfl) (ev_neg (by rw [wrap_in (by omega) (by omega)]; omega) (ev_some ?_))
    rw [show i = 8 * l.length by omega]
    rfl
  | succ d ih =>
    intro i hd hi
    have hlen := bitsTo_length l i
    have := ih (i + 1) (by omega) (by omega)
    rw [bitsTo_succ] at this
    refine Ev.step (fun _ => rfl) (ev_pos (by rw [wrap_in (by omega) (by omega)]; omega) (ev_bind0 (spec_has l i hb hl (by omega)) ?_))
    rw [wrap_succ (by omega)]
    by_cases e : bitOf l (i : Int) = true
    · rw [if_pos e] at this
      exact ev_pos e (ev_pos (by omega) this)
    · rw [if_neg e] at this
      exact ev_neg e this
theorem spec_bitsList (l : List Int) (hb : Bytes l) (hl : l.length ≤ 1048576) : Ev (fun k => spec_BitsList.f k l) (bitList l) := spec_bitsList_l0 l hb hl _ 0 rfl (by omega)

/-! ### spec_BitsOk -/
theorem spec_bitsSize1 (n : Int) (h0 : 1 ≤ n) (h1 : n ≤ 10) : spec_BitsSize.f n = some ((n - 1) / 8 + 1) := by
  unfold spec_BitsSize.f
  rw [if_neg (by omega), wrap_in (n := n - 1) (by omega) (by omega), Int.tdiv_eq_ediv_of_nonneg (by omega), wrap_in (n := (n - 1) / 8) (by omega) (by omega), wrap_in (by omega) (by omega)]
theorem spec_signers1 (n : Int) : spec_l02Signers.f n = some (decide (1 ≤ n ∧ n ≤ 10)) := by
  unfold spec_l02Signers.f spec_l01In.f
  by_cases h0 : n ≥ 1
  · rw [if_pos h0]
    simp only [Option.bind_some]
    congr 1
    simp
    omega
  · rw [if_neg h0]
    simp only [Option.bind_some]
    congr 1
    simp
    omega
theorem spec_bitsOk (l : List Int) (n : Int) (hb : Bytes l) (hl : l.length ≤ 1048576) : Ev (fun k => spec_BitsOk.f k l n) (bitsOk l n) := by
  unfold spec_BitsOk.f
  refine ev_bind0 (spec_signers1 n) ?_
  by_cases h : 1 ≤ n ∧ n ≤ 10
  · refine ev_pos (by simpa using h) (ev_bind0 (spec_bitsSize1 n h.1 h.2) ?_)
    by_cases h2 : (l.length : Int) = (n - 1) / 8 + 1
    · refine ev_pos h2 (Ev.bind (spec_bitsList l hb hl) ?_)
      have hlen := bitList_length l
      have e : bitsOk l n = (bitList l).all fun i => decide (i < n) := by
        unfold bitsOk
        rw [decide_eq_true (show (1 ≤ n ∧ n ≤ 10) ∧ (l.length : Int) = (n - 1) / 8 + 1 from ⟨h, h2⟩)]
        simp
      by_cases h3 : bitList l = []
      · refine ev_pos (by rw [h3]; rfl) (ev_some ?_)
        rw [e, h3]
        rfl
      · have hp : 0 < (bitList l).length := List.length_pos_iff.2 h3
        refine ev_neg (by omega) ?_
        rw [wrap_in (by omega) (by omega), getLastD_rd _ h3]
        refine ev_pos (by omega) (ev_pos (by omega) (ev_some ?_))
        rw [e, Bool.eq_iff_iff]
        simp only [decide_eq_true_eq, List.all_eq_true]
        exact bitsTo_last l _ n h3
    · refine ev_neg h2 (ev_some ?_)
      unfold bitsOk
      rw [decide_eq_false (show ¬ ((1 ≤ n ∧ n ≤ 10) ∧ (l.length : Int) = (n - 1) / 8 + 1) from fun x => h2 x.2)]
      rfl
  · refine ev_neg (by simpa using h) (ev_some ?_)
    unfold bitsOk
    rw [decide_eq_false (show ¬ ((1 ≤ n ∧ n ≤ 10) ∧ (l.length : Int) = (n - 1) / 8 + 1) from fun x => h x.1)]
    rfl

/-! ### spec_BitsSet -/
theorem spec_bit_all : ∀ (x : Fin 256) (j : Fin 8) (on : Bool), (((x.val : Int) / 2 ^ j.val % 2 == 1) != on) = true → Go.bits .xor .u8 (x.val : Int) (shl .u8 1 (j.val : Int)) = setBit (x.val : Int) j.val on := by decide +kernel
theorem spec_bit (x j : Int) (on : Bool) (h0 : 0 ≤ x) (h1 : x ≤ 255) (j0 : 0 ≤ j) (j1 : j < 8) (h : ((x / 2 ^ j.toNat % 2 == 1) != on) = true) : Go.bits .xor .u8 x (shl .u8 1 j) = setBit x j.toNat on := by
  have := spec_bit_all ⟨x.toNat, by omega⟩ ⟨j.toNat, by omega⟩ on
  simp only [Int.toNat_of_nonneg h0, Int.toNat_of_nonneg j0] at this
  exact this h
theorem bitOf_in (l : List Int) (i : Int) (h0 : 0 ≤ i) (h1 : i < 8 * (l.length : Int)) : bitOf l i = (rd l (i / 8) / 2 ^ (i % 8).toNat % 2 == 1) := by
  unfold bitOf
  rw [decide_eq_true h0, decide_eq_true h1]
  rfl
theorem spec_bitsSet (l : List Int) (n i : Int) (on : Bool) (hb : Bytes l) (hl : l.length ≤ 1048576) : Ev (fun k => spec_BitsSet.f k l n i on) (bitsSet l n i on) := by
  unfold spec_BitsSet.f bitsSet
  have no : Ev (fun k => spec_BitsSet.j0 k l i on true) ([], false) := Ev.step (f := fun _ => some ([], false)) (fun _ => by simp only [spec_BitsSet.j0, if_true]) (Ev.now _)
  refine Ev.bind (spec_bitsOk l n hb hl) ?_
  by_cases h : bitsOk l n = true
  · have hk := bitsOk_iff.1 h
    refine ev_pos h ?_
    rw [wrap_in (n := n - 1) (by omega) (by omega)]
    have e : spec_l01In.f i 0 (n - 1) = some (decide (0 ≤ i ∧ i < n)) := by
      unfold spec_l01In.f
      by_cases h0 : i ≥ 0
      · rw [if_pos h0]
        congr 1
        exact decide_eq_decide.2 (by omega)
      · rw [if_neg h0, decide_eq_false (by omega)]
    refine ev_bind0 e ?_
    by_cases h2 : 0 ≤ i ∧ i < n
    · rw [if_pos ⟨h, h2.1, h2.2⟩, decide_eq_true h2]
      have hc : spec_l01Copy.f l = some l := by
        unfold spec_l01Copy.f
        simp only [Option.bind_some, List.nil_append, List.length_nil, Nat.zero_add]
        rw [if_pos (by omega)]
      have hi : i < 8 * (l.length : Int) := by omega
      have hs := spec_has l i hb hl (by omega)
      have hv := hb.val (i / 8)
      have e1 : Int.tdiv i 8 = i / 8 := Int.tdiv_eq_ediv_of_nonneg h2.1
      have e2 : Int.tmod i 8 = i % 8 := Int.tmod_eq_emod_of_nonneg h2.1
      have e3 : wrap64 (i / 8) = i / 8 := wrap_in (by omega) (by omega)
      have eb := bitOf_in l i h2.1 hi
      by_cases hd : (bitOf l i != on) = true
      · have hx := spec_bit (rd l (i / 8)) (i % 8) on hv.1 hv.2 (by omega) (by omega) (by rw [← eb]; exact hd)
        refine Ev.step (f := fun _ => some (setAt l i on, true)) (fun _ => ?_) (Ev.now _)
        have c1 : (0 : Int) ≤ i / 8 := by omega
        have c2 : i / 8 < (l.length : Int) := by omega
        have c3 : (0 : Int) ≤ i % 8 := by omega
        simp only [spec_BitsSet.j0, Bool.not_true, Bool.false_eq_true, if_false, hc, hs, Option.bind_some, if_pos hd, e1, e2, e3, if_pos c1, if_pos c2, if_pos c3, hx, setAt]
      · have hset : setAt l i on = l := by
          unfold setAt setBit
          rw [if_neg (by rw [← eb]; exact hd)]
          have hlt : (i / 8).toNat < l.length := by omega
          have : rd l (i / 8) = l[(i / 8).toNat] := by
            have := rd_at hlt
            rwa [Int.toNat_of_nonneg (by omega)] at this
          rw [this]
          exact List.set_getElem_self hlt
        rw [hset]
        refine Ev.step (f := fun _ => some (l, true)) (fun _ => ?_) (Ev.now _)
        simp only [spec_BitsSet.j0, Bool.not_true, Bool.false_eq_true, if_false, hc, hs, Option.bind_some, if_neg hd]
    · rw [if_neg (fun x => h2 x.2), decide_eq_false h2]
      exact no
  · rw [if_neg (fun x => h x.1)]
    exact ev_neg h no

/-! ### impl_BitsList -/
theorem impl_has (l : List Int) (i : Int) (hb : Bytes l) (hl : l.length ≤ 1048576) (hi : -9223372036854775808 ≤ i ∧ i ≤ 9223372036854775807) : impl_BitsHas.f l i = some (bitOf l i) := by
  unfold impl_BitsHas.f bitOf impl_within.f
  rw [wrap_in (n := 8 * (l.length : Int)) (by omega) (by omega), wrap_in (by omega) (by omega)]
  by_cases h0 : 0 ≤ i
  · have ht : Int.tdiv i 8 = i / 8 := Int.tdiv_eq_ediv_of_nonneg h0
    have hm : Int.tmod i 8 = i % 8 := Int.tmod_eq_emod_of_nonneg h0
    rw [if_pos h0, ht, hm, wrap_in (n := i / 8) (by omega) (by omega)]
    by_cases h2 : i < 8 * (l.length : Int)
    · have hv := hb.val (i / 8)
      have hs := shr_small8 (k := .u8) (rd l (i / 8)) (i % 8) (by omega) (by omega) (by decide)
      have hd : 0 ≤ rd l (i / 8) / 2 ^ (i % 8).toNat := Int.ediv_nonneg hv.1 (Int.pow_nonneg (by decide))
      have hd2 : rd l (i / 8) / 2 ^ (i % 8).toNat < 256 := by
        have := Int.ediv_le_self (2 ^ (i % 8).toNat) hv.1
        omega
      have hx : Go.bits .and .u8 (rd l (i / 8) / 2 ^ (i % 8).toNat) 1 = rd l (i / 8) / 2 ^ (i % 8).toNat % 2 := bits_mask .u8 8 (by decide) wraps_u8 1 (by decide) _ hd (by omega)
      have hq : decide (i ≤ 8 * (l.length : Int) - 1) = true := by simp; omega
      simp only [hq, Option.bind_some, if_true]
      rw [if_pos (by omega), if_pos (by omega), if_pos (by omega), hs, hx]
      simp [h0, h2]
    · have hq : decide (i ≤ 8 * (l.length : Int) - 1) = false := by simp; omega
      simp only [hq, Option.bind_some]
      simp [h2]
  · rw [if_neg h0]
    simp [h0]
theorem impl_bitsList_l0 (l : List Int) (hb : Bytes l) (hl : l.length ≤ 1048576) : ∀ (d i : Nat), 8 * l.length - i = d → i ≤ 8 * l.length → Ev (fun k => impl_BitsList.l0 k l (bitsTo l i) (8 * (l.length : Int)) (i : Int)) (bitList l) := by
  intro d
  induction d with
  | zero =>
    intro i hd hi
    refine Ev.step (fun _ => rfl) (ev_neg (by omega) (ev_some ?_))
    rw [show i = 8 * l.length by omega]
    rfl
  | succ d ih =>
    intro i hd hi
    have hlen := bitsTo_length l i
    have := ih (i + 1) (by omega) (by omega)
    rw [bitsTo_succ] at this
    refine Ev.step (fun _ => rfl) (ev_pos (by omega) (ev_bind0 (impl_has l i hb hl (by omega)) ?_))
    rw [wrap_succ (by omega)]
    by_cases e : bitOf l (i : Int) = true
    · rw [if_pos e] at this
      exact ev_pos e (ev_pos (by omega) this)
    · rw [if_neg e] at this
      exact ev_neg e this
theorem impl_bitsList (l : List Int) (hb : Bytes l) (hl : l.length ≤ 1048576) : Ev (fun k => impl_BitsList.f k l) (bitList l) := by
  unfold impl_BitsList.f
  rw [wrap_in (by omega) (by omega)]
  exact impl_bitsList_l0 l hb hl _ 0 rfl (by omega)

/-! ### impl_BitsOk -/
theorem impl_bitsSize1 (n : Int) (h0 : 1 ≤ n) (h1 : n ≤ 10) : impl_BitsSize.f n = some ((n - 1) / 8 + 1) := by
  unfold impl_BitsSize.f
  rw [if_neg (by omega), wrap_in (n := n - 1) (by omega) (by omega), Int.tdiv_eq_ediv_of_nonneg (by omega), wrap_in (n := (n - 1) / 8) (by omega) (by omega), wrap_in (by omega) (by omega)]
theorem impl_signers1 (n : Int) : impl_within.f n 1 10 = some (decide (1 ≤ n ∧ n ≤ 10)) := by
  unfold impl_within.f
  by_cases h0 : 1 ≤ n
  · rw [if_pos h0]
    congr 1
    simp
    omega
  · rw [if_neg h0]
    congr 1
    simp
    omega
theorem impl_bitsOk_l0 (n : Int) (s : List Int) (hl : s.length ≤ 9000000000000000000) : ∀ (d i : Nat), s.length - i = d → i ≤ s.length → Ev (fun k => impl_BitsOk.l0 k n s (s.length : Int) (i : Int)) ((s.drop i).all fun x => decide (x < n)) := by
  intro d
  induction d with
  | zero =>
    intro i hd hi
    refine Ev.step (fun _ => rfl) (ev_neg (by omega) (ev_some ?_))
    rw [List.drop_of_length_le (by omega)]
    rfl
  | succ d ih =>
    intro i hd hi
    have hi' : i < s.length := by omega
    refine Ev.step (fun _ => rfl) (ev_pos (by omega) (ev_pos (by omega) (ev_pos (by omega) ?_)))
    rw [rd_at hi', wrap_succ (by omega), List.drop_eq_getElem_cons hi', List.all_cons]
    by_cases e : s[i] ≥ n
    · refine ev_pos e (ev_some ?_)
      rw [decide_eq_false (by omega)]
      rfl
    · refine ev_neg e ?_
      rw [decide_eq_true (by omega)]
      exact ih (i + 1) (by omega) (by omega)
theorem impl_bitsOk (l : List Int) (n : Int) (hb : Bytes l) (hl : l.length ≤ 1048576) : Ev (fun k => impl_BitsOk.f k l n) (bitsOk l n) := by
  unfold impl_BitsOk.f
  have no : Ev (fun k => impl_BitsOk.j0 k l n true) false := Ev.step (f := fun _ => some false) (fun _ => by simp only [impl_BitsOk.j0, if_true]) (Ev.now _)
  refine ev_bind0 (impl_signers1 n) ?_
  by_cases h : 1 ≤ n ∧ n ≤ 10
  · refine ev_pos (by simpa using h) (ev_bind0 (impl_bitsSize1 n h.1 h.2) ?_)
    by_cases h2 : (l.length : Int) = (n - 1) / 8 + 1
    · rw [show ((l.length : Int) != (n - 1) / 8 + 1) = false by simp [h2]]
      have hlen := bitList_length l
      have e : bitsOk l n = (bitList l).all fun i => decide (i < n) := by
        unfold bitsOk
        rw [decide_eq_true (show (1 ≤ n ∧ n ≤ 10) ∧ (l.length : Int) = (n - 1) / 8 + 1 from ⟨h, h2⟩)]
        simp
      refine Ev.step (f := fun k => (impl_BitsList.f k l).bind fun t => impl_BitsOk.l0 k n t (t.length : Int) 0) (fun _ => by simp only [impl_BitsOk.j0, Bool.false_eq_true, if_false]) (Ev.bind (impl_bitsList l hb hl) ?_)
      rw [e]
      exact impl_bitsOk_l0 n (bitList l) (by omega) _ 0 rfl (by omega)
    · rw [show ((l.length : Int) != (n - 1) / 8 + 1) = true by simp [h2]]
      have e : bitsOk l n = false := by
        unfold bitsOk
        rw [decide_eq_false (show ¬ ((1 ≤ n ∧ n ≤ 10) ∧ (l.length : Int) = (n - 1) / 8 + 1) from fun x => h2 x.2)]
        rfl
      rw [e]
      exact no
  · refine ev_neg (by simpa using h) ?_
    have e : bitsOk l n = false := by
      unfold bitsOk
      rw [decide_eq_false (show ¬ ((1 ≤ n ∧ n ≤ 10) ∧ (l.length : Int) = (n - 1) / 8 + 1) from fun x => h x.1)]
      rfl
    rw [e]
    exact no

/-! ### impl_BitsSet -/
theorem impl_bit_all : ∀ (x : Fin 256) (j : Fin 8), Go.bits .andNot .u8 (x.val : Int) (shl .u8 1 (j.val : Int)) = setBit (x.val : Int) j.val false ∧ Go.bits .or .u8 (setBit (x.val : Int) j.val false) (shl .u8 1 (j.val : Int)) = setBit (x.val : Int) j.val true := by decide +kernel
theorem impl_bit (x j : Int) (h0 : 0 ≤ x) (h1 : x ≤ 255) (j0 : 0 ≤ j) (j1 : j < 8) : Go.bits .andNot .u8 x (shl .u8 1 j) = setBit x j.toNat false ∧ Go.bits .or .u8 (setBit x j.toNat false) (shl .u8 1 j) = setBit x j.toNat true := by
  have := impl_bit_all ⟨x.toNat, by omega⟩ ⟨j.toNat, by omega⟩
  simp only [Int.toNat_of_nonneg h0, Int.toNat_of_nonneg j0] at this
  exact this
theorem impl_bitsSet (l : List Int) (n i : Int) (on : Bool) (hb : Bytes l) (hl : l.length ≤ 1048576) : Ev (fun k => impl_BitsSet.f k l n i on) (bitsSet l n i on) := by
  unfold impl_BitsSet.f bitsSet
  have no : Ev (fun k => impl_BitsSet.j0 k l i on true) ([], false) := Ev.step (f := fun _ => some ([], false)) (fun _ => by simp only [impl_BitsSet.j0, if_true]) (Ev.now _)
  refine Ev.bind (impl_bitsOk l n hb hl) ?_
  by_cases h : bitsOk l n = true
  · have hk := bitsOk_iff.1 h
    refine ev_pos h ?_
    rw [wrap_in (n := n - 1) (by omega) (by omega)]
    have e : impl_within.f i 0 (n - 1) = some (decide (0 ≤ i ∧ i < n)) := by
      unfold impl_within.f
      by_cases h0 : 0 ≤ i
      · rw [if_pos h0]
        congr 1
        exact decide_eq_decide.2 (by omega)
      · rw [if_neg h0, decide_eq_false (by omega)]
    refine ev_bind0 e ?_
    by_cases h2 : 0 ≤ i ∧ i < n
    · rw [if_pos ⟨h, h2.1, h2.2⟩, decide_eq_true h2]
      have hc : impl_copyBytes.f l = some l := by
        unfold impl_copyBytes.f
        simp only [Option.bind_some, List.nil_append, List.length_nil, Nat.zero_add]
        rw [if_pos (by omega)]
      have hi : i < 8 * (l.length : Int) := by omega
      have hv := hb.val (i / 8)
      have e1 : Int.tdiv i 8 = i / 8 := Int.tdiv_eq_ediv_of_nonneg h2.1
      have e2 : Int.tmod i 8 = i % 8 := Int.tmod_eq_emod_of_nonneg h2.1
      have e3 : wrap64 (i / 8) = i / 8 := wrap_in (by omega) (by omega)
      obtain ⟨x1, x2⟩ := impl_bit (rd l (i / 8)) (i % 8) hv.1 hv.2 (by omega) (by omega)
      have c1 : (0 : Int) ≤ i / 8 := by omega
      have c2 : i / 8 < (l.length : Int) := by omega
      have c3 : (0 : Int) ≤ i % 8 := by omega
      have hr : rd (l.set (i / 8).toNat (setBit (rd l (i / 8)) (i % 8).toNat false)) (i / 8) = setBit (rd l (i / 8)) (i % 8).toNat false := by
        rw [rd_set l _ _ _ (by omega) c1, if_pos (by omega)]
      refine Ev.step (f := fun _ => some (setAt l i on, true)) (fun _ => ?_) (Ev.now _)
      cases on
      · simp only [impl_BitsSet.j0, Bool.not_true, Bool.false_eq_true, if_false, hc, Option.bind_some, e1, e2, e3, if_pos c1, if_pos c2, if_pos c3, x1, setAt]
      · simp only [impl_BitsSet.j0, Bool.not_true, Bool.false_eq_true, if_false, if_true, hc, Option.bind_some, e1, e2, e3, if_pos c1, if_pos c2, if_pos c3, x1, hr, x2, setAt, List.set_set]
    · rw [if_neg (fun x => h2 x.2), decide_eq_false h2]
      exact no
  · rw [if_neg (fun x => h x.1)]
    exact ev_neg h no

attribute [local congr] bind_lazy ite_lazy
theorem FnExactBitsSet : laws_FnExactBitsSet.Pure := by
  intro l n i on _ _ hw_l hw_n hw_i
  have hb_l := bytes_of_wf hw_l
  by_cases g_l : (l.length : Int) > 1048576
  · exact ⟨0, by simp only [laws_FnExactBitsSet.f, if_pos g_l]⟩
  obtain ⟨K0, t_l⟩ := toByteS_ev l (by omega)
  obtain ⟨K1, q_l⟩ := eqByteS_same l (by omega)
  obtain ⟨K2, es⟩ := spec_bitsSet l n i on hb_l (by omega)
  obtain ⟨K3, ei⟩ := impl_bitsSet l n i on hb_l (by omega)
  have hr0 := bitsSet_length l n i on
  generalize bitsSet l n i on = r at es ei hr0
  obtain ⟨r0, r1⟩ := r
  simp only at hr0
  obtain ⟨K4, m_l⟩ := markByteS_ev l (1) (by omega) (by omega)
  have neg0 : ¬ (1 + (l.length : Int) < 0) := by omega
  obtain ⟨K5, q_r0⟩ := eqByteS_same r0 (by omega)
  obtain ⟨K6, m_r0⟩ := markByteS_ev r0 (1) (by omega) (by omega)
  obtain ⟨K7, h_r0⟩ := heldByteS_ev (1) r0.length (by omega) (by omega)
  have neg1 : ¬ (1 + (r0.length : Int) < 0) := by omega
  refine ⟨K0 + K1 + K2 + K3 + K4 + K5 + K6 + K7 + 4, ?_⟩
  simp (disch := omega) only [laws_FnExactBitsSet.f, laws_FnExactBitsSet.j0, laws_FnExactBitsSet.j1, laws_FnExactBitsSet.j2, if_neg g_l, t_l, q_l, es, ei, m_l, q_r0, m_r0, h_r0, if_neg neg0, if_neg neg1, bind_at, bne_self_eq_false, Bool.not_true, Bool.not_false, Bool.false_eq_true, if_true, if_false]

end Go.Proofs.Ythddmjogfolafaa.Pure
