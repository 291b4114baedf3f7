/- Bitmaps as plain functions on lists. No conditions but those typed. -/
import Derived.Test.YtdhbfpfonnelgaaLib
set_option linter.unusedVariables false
set_option linter.unusedSimpArgs false
namespace Go.Proofs.Ytdhbfpfonnelgaa.Lib
open Go.RowKit Go.Proofs.YtdhbfpfonnelgaaW.PrintWords Go.Proofs.YtdhbfpfonnelgaaW.PrintLast Go.Proofs.YtdhbfpfonnelgaaW.PrintMore

/-- The set bits among the first n. -/
def bitsTo (l : List Int) (n : Nat) : List Int := ((List.range n).map fun i : Nat => (i : Int)).filter fun i => bitOf l i
def bitList (l : List Int) : List Int := bitsTo l (8 * l.length)
theorem bitsTo_succ (l : List Int) (n : Nat) : bitsTo l (n + 1) = if bitOf l (n : Int) = true then bitsTo l n ++ [(n : Int)] else bitsTo l n := by
  unfold bitsTo
  rw [List.range_succ, List.map_append, List.filter_append]
  by_cases h : bitOf l (n : Int) = true <;> simp [h]
theorem bitsTo_length (l : List Int) (n : Nat) : (bitsTo l n).length ≤ n := by
  unfold bitsTo
  refine Nat.le_trans (List.length_filter_le _ _) ?_
  simp
theorem bitList_length (l : List Int) : (bitList l).length ≤ 8 * l.length := bitsTo_length l _
theorem mem_bitsTo {l : List Int} {n : Nat} {i : Int} : i ∈ bitsTo l n ↔ (0 ≤ i ∧ i < n) ∧ bitOf l i = true := by
  unfold bitsTo
  rw [List.mem_filter, List.mem_map]
  constructor
  · rintro ⟨⟨j, hj, rfl⟩, h⟩
    rw [List.mem_range] at hj
    exact ⟨⟨by omega, by omega⟩, h⟩
  · rintro ⟨⟨h0, h1⟩, h⟩
    exact ⟨⟨i.toNat, by rw [List.mem_range]; omega, by omega⟩, h⟩
theorem bitOf_range {l : List Int} {i : Int} (h : bitOf l i = true) : 0 ≤ i ∧ i < 8 * (l.length : Int) := by
  unfold bitOf at h
  simp only [Bool.and_eq_true, decide_eq_true_eq] at h
  exact h.1
theorem mem_bitList {l : List Int} {i : Int} : i ∈ bitList l ↔ bitOf l i = true := by
  unfold bitList
  rw [mem_bitsTo]
  constructor
  · exact fun h => h.2
  · intro h
    have := bitOf_range h
    exact ⟨⟨this.1, by omega⟩, h⟩
/-- A list that goes up: its last is below n just where all are. -/
theorem bitsTo_last (l : List Int) (n : Nat) (m : Int) : bitsTo l n ≠ [] → (((bitsTo l n).getLastD 0 < m) ↔ ∀ i ∈ bitsTo l n, i < m) := by
  induction n with
  | zero => intro h; exact absurd rfl h
  | succ n ih =>
    intro h
    rw [bitsTo_succ] at h ⊢
    by_cases e : bitOf l (n : Int) = true
    · rw [if_pos e]
      simp only [List.getLastD_concat]
      constructor
      · intro hm i hi
        rcases List.mem_append.1 hi with hi | hi
        · have := (mem_bitsTo.1 hi).1
          omega
        · rw [List.mem_singleton] at hi
          omega
      · intro hm
        exact hm _ (by simp)
    · rw [if_neg e] at h ⊢
      exact ih h
theorem getLastD_rd (l : List Int) (h : l ≠ []) : rd l ((l.length : Int) - 1) = l.getLastD 0 := by
  have hp : 0 < l.length := List.length_pos_iff.2 h
  rw [show (l.length : Int) - 1 = ((l.length - 1 : Nat) : Int) by omega, rd_at (show l.length - 1 < l.length by omega)]
  rw [List.getLastD_eq_getLast?, List.getLast?_eq_getElem?, List.getElem?_eq_getElem (show l.length - 1 < l.length by omega)]
  rfl
def bitsOk (l : List Int) (n : Int) : Bool := decide ((1 ≤ n ∧ n ≤ 10) ∧ (l.length : Int) = (n - 1) / 8 + 1) && (bitList l).all fun i => decide (i < n)
theorem bitsOk_iff {l : List Int} {n : Int} : bitsOk l n = true ↔ ((1 ≤ n ∧ n ≤ 10) ∧ (l.length : Int) = (n - 1) / 8 + 1) ∧ ∀ i, bitOf l i = true → i < n := by
  unfold bitsOk
  simp only [Bool.and_eq_true, decide_eq_true_eq, List.all_eq_true, mem_bitList]
/-- A byte with one bit as it is told. -/
def setBit (x : Int) (j : Nat) (on : Bool) : Int := if (x / 2 ^ j % 2 == 1) != on then (if on then x + 2 ^ j else x - 2 ^ j) else x
def setAt (l : List Int) (i : Int) (on : Bool) : List Int := l.set (i / 8).toNat (setBit (rd l (i / 8)) (i % 8).toNat on)
theorem setBit_all : ∀ (x : Fin 256) (j : Fin 8) (on : Bool), (0 ≤ setBit (x.val : Int) j.val on ∧ setBit (x.val : Int) j.val on ≤ 255) ∧ ∀ i : Fin 8, (setBit (x.val : Int) j.val on / 2 ^ i.val % 2 == 1) = if i = j then on else ((x.val : Int) / 2 ^ i.val % 2 == 1) := by decide +kernel
theorem setBit_byte (x : Int) (j : Nat) (on : Bool) (h0 : 0 ≤ x) (h1 : x ≤ 255) (hj : j < 8) : 0 ≤ setBit x j on ∧ setBit x j on ≤ 255 := by
  have := (setBit_all ⟨x.toNat, by omega⟩ ⟨j, hj⟩ on).1
  simpa [Int.toNat_of_nonneg h0] using this
theorem setBit_bit (x : Int) (j i : Nat) (on : Bool) (h0 : 0 ≤ x) (h1 : x ≤ 255) (hj : j < 8) (hi : i < 8) : (setBit x j on / 2 ^ i % 2 == 1) = if i = j then on else (x / 2 ^ i % 2 == 1) := by
  have := (setBit_all ⟨x.toNat, by omega⟩ ⟨j, hj⟩ on).2 ⟨i, hi⟩
  simpa [Int.toNat_of_nonneg h0] using this
theorem setAt_length (l : List Int) (i : Int) (on : Bool) : (setAt l i on).length = l.length := by simp [setAt]
theorem setAt_bytes {l : List Int} (h : Bytes l) (i : Int) (h0 : 0 ≤ i) (on : Bool) : Bytes (setAt l i on) := by
  have hv := h.val (i / 8)
  have := setBit_byte (rd l (i / 8)) (i % 8).toNat on hv.1 hv.2 (by omega)
  exact h.set _ this.1 this.2
theorem rd_set (l : List Int) (a : Nat) (v b : Int) (ha : a < l.length) (hb : 0 ≤ b) : rd (l.set a v) b = if b = (a : Int) then v else rd l b := by
  unfold rd
  rw [List.getD_eq_getElem?_getD, List.getD_eq_getElem?_getD, List.getElem?_set]
  by_cases e : b = (a : Int)
  · subst e
    simp [ha]
  · rw [if_neg (by omega), if_neg e]
theorem bitOf_setAt {l : List Int} (h : Bytes l) (i j : Int) (on : Bool) (h0 : 0 ≤ i) (h1 : i < 8 * (l.length : Int)) : bitOf (setAt l i on) j = if j = i then on else bitOf l j := by
  have hv := h.val (i / 8)
  unfold bitOf
  rw [setAt_length]
  by_cases j0 : 0 ≤ j
  · by_cases j1 : j < 8 * (l.length : Int)
    · simp only [decide_eq_true j0, decide_eq_true j1, Bool.true_and]
      unfold setAt
      rw [rd_set l _ _ _ (by omega) (by omega), show (((i / 8).toNat : Nat) : Int) = i / 8 by omega]
      by_cases e : j / 8 = i / 8
      · rw [if_pos e, setBit_bit _ _ _ on hv.1 hv.2 (by omega) (by omega), e]
        by_cases e2 : j = i
        · rw [if_pos e2, if_pos (by omega)]
        · rw [if_neg e2, if_neg (by omega)]
      · rw [if_neg e, if_neg (by omega)]
    · rw [if_neg (by omega)]
      simp [j1]
  · rw [if_neg (by omega)]
    simp [j0]
theorem setAt_ok {l : List Int} {n : Int} (hb : Bytes l) (h : bitsOk l n = true) (i : Int) (on : Bool) (h0 : 0 ≤ i) (h1 : i < n) : bitsOk (setAt l i on) n = true := by
  rw [bitsOk_iff] at h ⊢
  obtain ⟨⟨hn, hl⟩, hall⟩ := h
  refine ⟨⟨hn, by rw [setAt_length]; exact hl⟩, fun j hj => ?_⟩
  rw [bitOf_setAt hb i j on h0 (by omega)] at hj
  by_cases e : j = i
  · omega
  · rw [if_neg e] at hj
    exact hall j hj
def bitsSet (l : List Int) (n i : Int) (on : Bool) : List Int × Bool := if bitsOk l n = true ∧ 0 ≤ i ∧ i < n then (setAt l i on, true) else ([], false)
theorem bitsSet_length (l : List Int) (n i : Int) (on : Bool) : (bitsSet l n i on).1.length ≤ l.length := by
  unfold bitsSet
  split
  · simp [setAt_length]
  · simp
/-- Two bitmaps of one length with the same bits are one. -/
theorem byte_ext : ∀ x y : Fin 256, (∀ i : Fin 8, (x.val / 2 ^ i.val % 2 == 1) = (y.val / 2 ^ i.val % 2 == 1)) → x = y := by
  have step : ∀ x : Fin 256, x.val = (x.val / 2 ^ 0 % 2) + 2 * (x.val / 2 ^ 1 % 2) + 4 * (x.val / 2 ^ 2 % 2) + 8 * (x.val / 2 ^ 3 % 2) + 16 * (x.val / 2 ^ 4 % 2) + 32 * (x.val / 2 ^ 5 % 2) + 64 * (x.val / 2 ^ 6 % 2) + 128 * (x.val / 2 ^ 7 % 2) := by decide +kernel
  have dig : ∀ a b : Nat, (a % 2 == 1) = (b % 2 == 1) → a % 2 = b % 2 := by
    intro a b h
    rcases Nat.mod_two_eq_zero_or_one a with ha | ha <;> rcases Nat.mod_two_eq_zero_or_one b with hb | hb <;> simp_all
  intro x y h
  have hx := step x
  have hy := step y
  have h0 := dig _ _ (h 0)
  have h1 := dig _ _ (h 1)
  have h2 := dig _ _ (h 2)
  have h3 := dig _ _ (h 3)
  have h4 := dig _ _ (h 4)
  have h5 := dig _ _ (h 5)
  have h6 := dig _ _ (h 6)
  have h7 := dig _ _ (h 7)
  simp only [Fin.val_zero, Fin.val_one, Fin.isValue] at h0 h1 h2 h3 h4 h5 h6 h7
  apply Fin.ext
  rw [hx, hy]
  have e2 : (2 : Fin 8).val = 2 := rfl
  have e3 : (3 : Fin 8).val = 3 := rfl
  have e4 : (4 : Fin 8).val = 4 := rfl
  have e5 : (5 : Fin 8).val = 5 := rfl
  have e6 : (6 : Fin 8).val = 6 := rfl
  have e7 : (7 : Fin 8).val = 7 := rfl
  rw [e2] at h2
  rw [e3] at h3
  rw [e4] at h4
  rw [e5] at h5
  rw [e6] at h6
  rw [e7] at h7
  omega
end Go.Proofs.Ytdhbfpfonnelgaa.Lib
