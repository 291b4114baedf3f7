/- The program's function answers what the reference's answers, for all arguments: the printed law comes to true. Conditions: those of the printed statement alone. -/
import Derived.Test.YthddmjogfolafaaPFnExactBitsOfx4
import Derived.Test.YthddmjogfolafaaLib
import Derived.Test.YthddmjogfolafaaLibBits
set_option linter.unusedVariables false
set_option linter.unusedSimpArgs false
set_option maxRecDepth 4000
namespace Go.Proofs.Ythddmjogfolafaa.Pure
open Go.RowKit Go.Proofs.Ythddmjogfolafaa.PFnExactBitsOf Go.Proofs.YthddmjogfolafaaW.PrintWords Go.Proofs.YthddmjogfolafaaW.PrintLast Go.Proofs.YthddmjogfolafaaW.PrintMore Go.Proofs.Ythddmjogfolafaa.Lib

/-! ### laws_eqByteS -/
theorem eqByteS_l0 (a b : List Int) (hl : a.length ≤ 9000000000000000000) (hab : a.length = b.length) : ∀ (d i : Nat), a.length - i = d → i ≤ a.length → a.take i = b.take i → Ev (fun k => laws_eqByteS.l0 k a b (i : Int)) (decide (a = b)) := by
  intro d
  induction d with
  | zero =>
    intro i hd hi ht
    refine Ev.step (fun _ => rfl) (ev_neg (by omega) (ev_some ?_))
    rw [List.take_of_length_le (by omega), List.take_of_length_le (by omega)] at ht
    simp [ht]
  | succ d ih =>
    intro i hd hi ht
    refine Ev.step (fun _ => rfl) (ev_pos (by omega) (ev_pos (by omega) (ev_pos (by omega) ?_)))
    have ha : i < a.length := by omega
    have hb : i < b.length := by omega
    rw [rd_at ha, rd_at hb]
    by_cases e : a[i] = b[i]
    · refine ev_pos e ?_
      rw [wrap_succ (by omega)]
      exact ih (i + 1) (by omega) (by omega) (by rw [List.take_succ_eq_append_getElem ha, List.take_succ_eq_append_getElem hb, ht, e])
    · refine ev_neg e (ev_some ?_)
      have : a ≠ b := fun h => e (by subst h; rfl)
      simp [this]
theorem eqByteS_ev (a b : List Int) (hl : a.length ≤ 9000000000000000000) : Ev (fun k => laws_eqByteS.f k a b) (decide (a = b)) := by
  unfold laws_eqByteS.f
  by_cases h : a.length = b.length
  · refine ev_pos (by omega) ?_
    exact eqByteS_l0 a b hl h _ 0 rfl (by omega) (by simp)
  · refine ev_neg (by omega) (ev_some ?_)
    have : a ≠ b := fun e => h (by rw [e])
    simp [this]
theorem eqByteS_same (a : List Int) (hl : a.length ≤ 9000000000000000000) : Ev (fun k => laws_eqByteS.f k a a) true := ev_eq (by simp) (eqByteS_ev a a hl)

/-! ### laws_markByteS -/
theorem markByteS_l0 (a : Int) (n : Nat) (h0 : 0 ≤ a) (h1 : a + n ≤ 9000000000000000000) : ∀ (d i : Nat) (ys : List Int), n - i = d → i ≤ n → ys.length = n → ys.take i = (marks a n).take i → Ev (fun k => laws_markByteS.l0 k ys (a + (i : Int)) (i : Int)) (a + (n : Int), marks a n) := by
  intro d
  induction d with
  | zero =>
    intro i ys hd hi hy ht
    refine Ev.step (fun _ => rfl) (ev_neg (by omega) (ev_some ?_))
    rw [List.take_of_length_le (by omega), List.take_of_length_le (by rw [marks_length]; omega)] at ht
    rw [ht, show i = n by omega]
  | succ d ih =>
    intro i ys hd hi hy ht
    refine Ev.step (fun _ => rfl) (ev_pos (by omega) (ev_pos (by omega) ?_))
    have hm : i < (marks a n).length := by rw [marks_length]; omega
    have e : (a + (i : Int)) % 256 = (marks a n)[i] := by rw [← rd_at hm, marks_at a n (by omega)]
    rw [wrap_succ (by omega), wrap_in (by omega) (by omega), show a + (i : Int) + 1 = a + ((i + 1 : Nat) : Int) by omega, e, Int.toNat_natCast]
    exact ih (i + 1) _ (by omega) (by omega) (by simpa using hy) (set_take_succ ys (marks a n) i (by omega) hm ht)
theorem markByteS_ev (l : List Int) (a : Int) (h0 : 0 ≤ a) (h1 : a + l.length ≤ 9000000000000000000) : Ev (fun k => laws_markByteS.f k l a) (a + (l.length : Int), marks a l.length) := by
  unfold laws_markByteS.f
  have := markByteS_l0 a l.length h0 h1 _ 0 l rfl (by omega) rfl (by simp)
  simpa using this

/-! ### laws_heldByteS -/
theorem heldByteS_l0 (a : Int) (n : Nat) (h0 : 0 ≤ a) (h1 : a + n ≤ 9000000000000000000) : ∀ (d i : Nat), n - i = d → i ≤ n → Ev (fun k => laws_heldByteS.l0 k (marks a n) (a + (i : Int)) (i : Int)) (a + (n : Int)) := by
  intro d
  induction d with
  | zero =>
    intro i hd hi
    refine Ev.step (fun _ => rfl) (ev_neg (by rw [marks_length]; omega) (ev_some ?_))
    rw [show i = n by omega]
  | succ d ih =>
    intro i hd hi
    refine Ev.step (fun _ => rfl) (ev_pos (by rw [marks_length]; omega) (ev_pos (by omega) (ev_pos (marks_at a n (by omega)) ?_)))
    rw [wrap_succ (by omega), wrap_in (by omega) (by omega), show a + (i : Int) + 1 = a + ((i + 1 : Nat) : Int) by omega]
    exact ih (i + 1) (by omega) (by omega)
theorem heldByteS_ev (a : Int) (n : Nat) (h0 : 0 ≤ a) (h1 : a + n ≤ 9000000000000000000) : Ev (fun k => laws_heldByteS.f k (marks a n) a) (a + (n : Int)) := by
  unfold laws_heldByteS.f
  have := heldByteS_l0 a n h0 h1 _ 0 rfl (by omega)
  simpa using this

/-! ### laws_eqIntS -/
theorem eqIntS_l0 (a b : List Int) (hl : a.length ≤ 9000000000000000000) (hab : a.length = b.length) : ∀ (d i : Nat), a.length - i = d → i ≤ a.length → a.take i = b.take i → Ev (fun k => laws_eqIntS.l0 k a b (i : Int)) (decide (a = b)) := by
  intro d
  induction d with
  | zero =>
    intro i hd hi ht
    refine Ev.step (fun _ => rfl) (ev_neg (by omega) (ev_some ?_))
    rw [List.take_of_length_le (by omega), List.take_of_length_le (by omega)] at ht
    simp [ht]
  | succ d ih =>
    intro i hd hi ht
    refine Ev.step (fun _ => rfl) (ev_pos (by omega) (ev_pos (by omega) (ev_pos (by omega) ?_)))
    have ha : i < a.length := by omega
    have hb : i < b.length := by omega
    rw [rd_at ha, rd_at hb]
    by_cases e : a[i] = b[i]
    · refine ev_pos e ?_
      rw [wrap_succ (by omega)]
      exact ih (i + 1) (by omega) (by omega) (by rw [List.take_succ_eq_append_getElem ha, List.take_succ_eq_append_getElem hb, ht, e])
    · refine ev_neg e (ev_some ?_)
      have : a ≠ b := fun h => e (by subst h; rfl)
      simp [this]
theorem eqIntS_ev (a b : List Int) (hl : a.length ≤ 9000000000000000000) : Ev (fun k => laws_eqIntS.f k a b) (decide (a = b)) := by
  unfold laws_eqIntS.f
  by_cases h : a.length = b.length
  · refine ev_pos (by omega) ?_
    exact eqIntS_l0 a b hl h _ 0 rfl (by omega) (by simp)
  · refine ev_neg (by omega) (ev_some ?_)
    have : a ≠ b := fun e => h (by rw [e])
    simp [this]
theorem eqIntS_same (a : List Int) (hl : a.length ≤ 9000000000000000000) : Ev (fun k => laws_eqIntS.f k a a) true := ev_eq (by simp) (eqIntS_ev a a hl)

/-! ### laws_markIntS -/
theorem markIntS_l0 (a : Int) (n : Nat) (h0 : 0 ≤ a) (h1 : a + n ≤ 9000000000000000000) : ∀ (d i : Nat) (ys : List Int), n - i = d → i ≤ n → ys.length = n → ys.take i = (marksI a n).take i → Ev (fun k => laws_markIntS.l0 k ys (a + (i : Int)) (i : Int)) (a + (n : Int), marksI a n) := by
  intro d
  induction d with
  | zero =>
    intro i ys hd hi hy ht
    refine Ev.step (fun _ => rfl) (ev_neg (by omega) (ev_some ?_))
    rw [List.take_of_length_le (by omega), List.take_of_length_le (by rw [marksI_length]; omega)] at ht
    rw [ht, show i = n by omega]
  | succ d ih =>
    intro i ys hd hi hy ht
    refine Ev.step (fun _ => rfl) (ev_pos (by omega) (ev_pos (by omega) ?_))
    have hm : i < (marksI a n).length := by rw [marksI_length]; omega
    have e : a + (i : Int) = (marksI a n)[i] := by rw [← rd_at hm, marksI_at a n (by omega)]
    rw [wrap_succ (by omega), wrap_in (by omega) (by omega), show a + (i : Int) + 1 = a + ((i + 1 : Nat) : Int) by omega, e, Int.toNat_natCast]
    exact ih (i + 1) _ (by omega) (by omega) (by simpa using hy) (set_take_succ ys (marksI a n) i (by omega) hm ht)
theorem markIntS_ev (l : List Int) (a : Int) (h0 : 0 ≤ a) (h1 : a + l.length ≤ 9000000000000000000) : Ev (fun k => laws_markIntS.f k l a) (a + (l.length : Int), marksI a l.length) := by
  unfold laws_markIntS.f
  have := markIntS_l0 a l.length h0 h1 _ 0 l rfl (by omega) rfl (by simp)
  simpa using this

/-! ### spec_BitsList -/
theorem spec_has (l : List Int) (i : Int) (hb : Bytes l) (hl : l.length ≤ 1048576) (hi : -9223372036854775808 ≤ i ∧ i ≤ 9223372036854775807) : spec_BitsHas.f l i = some (bitOf l i) := by
  unfold spec_BitsHas.f bitOf
  by_cases h0 : 0 ≤ i
  · have ht : Int.tdiv i 8 = i / 8 := Int.tdiv_eq_ediv_of_nonneg h0
    have hm : Int.tmod i 8 = i % 8 := Int.tmod_eq_emod_of_nonneg h0
    rw [if_pos h0, ht, hm, wrap_in (by omega) (by omega)]
    by_cases h1 : i / 8 < (l.length : Int)
    · have hv := hb.val (i / 8)
      rw [if_pos h1, if_pos (by omega), if_pos (by omega), wrap_in (by omega) (by omega)]
      have h2 : i < 8 * (l.length : Int) := by omega
      have hs := shr_small8 (k := .i64) (rd l (i / 8)) (i % 8) (by omega) (by omega) (by decide)
      rw [hs]
      have hd : 0 ≤ rd l (i / 8) / 2 ^ (i % 8).toNat := Int.ediv_nonneg hv.1 (Int.pow_nonneg (by decide))
      rw [Int.tmod_eq_emod_of_nonneg hd]
      simp [h0, h2]
    · have h2 : ¬ i < 8 * (l.length : Int) := by omega
      rw [if_neg h1]
      simp [h2]
  · rw [if_neg h0]
    simp [h0]
theorem spec_bitsList_l0 (l : List Int) (hb : Bytes l) (hl : l.length ≤ 1048576) : ∀ (d i : Nat), 8 * l.length - i = d → i ≤ 8 * l.length → Ev (fun k => spec_BitsList.l0 k l (bitsTo l i) (i : Int)) (bitList l) := by
  intro d
  induction d with
  | zero =>
    intro i hd hi
    refine Ev.step (fun _ => rfl) (ev_neg (by rw [wrap_in (by omega) (by omega)]; omega) (ev_some ?_))
    rw [show i = 8 * l.length by omega]
    rfl
  | succ d ih =>
    intro i hd hi
    have hlen := bitsTo_length l i
    have := ih (i + 1) (by omega) (by omega)
    rw [bitsTo_succ] at this
    refine Ev.step (fun _ => rfl) (ev_pos (by rw [wrap_in (by omega) (by omega)]; omega) (ev_bind0 (spec_has l i hb hl (by omega)) ?_))
    rw [wrap_succ (by omega)]
    by_cases e : bitOf l (i : Int) = true
    · rw [if_pos e] at this
      exact ev_pos e (ev_pos (by omega) this)
    · rw [if_neg e] at this
      exact ev_neg e this
theorem spec_bitsList (l : List Int) (hb : Bytes l) (hl : l.length ≤ 1048576) : Ev (fun k => spec_BitsList.f k l) (bitList l) := spec_bitsList_l0 l hb hl _ 0 rfl (by omega)

/-! ### spec_BitsOk -/
theorem spec_bitsSize1 (n : Int) (h0 : 1 ≤ n) (h1 : n ≤ 10) : spec_BitsSize.f n = some ((n - 1) / 8 + 1) := by
  unfold spec_BitsSize.f
  rw [if_neg (by omega), wrap_in (n := n - 1) (by omega) (by omega), Int.tdiv_eq_ediv_of_nonneg (by omega), wrap_in (n := (n - 1) / 8) (by omega) (by omega), wrap_in (by omega) (by omega)]
theorem spec_signers1 (n : Int) : spec_l02Signers.f n = some (decide (1 ≤ n ∧ n ≤ 10)) := by
  unfold spec_l02Signers.f spec_l01In.f
  by_cases h0 : n ≥ 1
  · rw [if_pos h0]
    simp only [Option.bind_some]
    congr 1
    simp
    omega
  · rw [if_neg h0]
    simp only [Option.bind_some]
    congr 1
    simp
    omega
theorem spec_bitsOk (l : List Int) (n : Int) (hb : Bytes l) (hl : l.length ≤ 1048576) : Ev (fun k => spec_BitsOk.f k l n) (bitsOk l n) := by
  unfold spec_BitsOk.f
  refine ev_bind0 (spec_signers1 n) ?_
  by_cases h : 1 ≤ n ∧ n ≤ 10
  · refine ev_pos (by simpa using h) (ev_bind0 (spec_bitsSize1 n h.1 h.2) ?_)
    by_cases h2 : (l.length : Int) = (n - 1) / 8 + 1
    · refine ev_pos h2 (Ev.bind (spec_bitsList l hb hl) ?_)
      have hlen := bitList_length l
      have e : bitsOk l n = (bitList l).all fun i => decide (i < n) := by
        unfold bitsOk
        rw [decide_eq_true (show (1 ≤ n ∧ n ≤ 10) ∧ (l.length : Int) = (n - 1) / 8 + 1 from ⟨h, h2⟩)]
        simp
      by_cases h3 : bitList l = []
      · refine ev_pos (by rw [h3]; rfl) (ev_some ?_)
        rw [e, h3]
        rfl
      · have hp : 0 < (bitList l).length := List.length_pos_iff.2 h3
        refine ev_neg (by omega) ?_
        rw [wrap_in (by omega) (by omega), getLastD_rd _ h3]
        refine ev_pos (by omega) (ev_pos (by omega) (ev_some ?_))
        rw [e, Bool.eq_iff_iff]
        simp only [decide_eq_true_eq, List.all_eq_true]
        exact bitsTo_last l _ n h3
    · refine ev_neg h2 (ev_some ?_)
      unfold bitsOk
      rw [decide_eq_false (show ¬ ((1 ≤ n ∧ n ≤ 10) ∧ (l.length : Int) = (n - 1) / 8 + 1) from fun x => h2 x.2)]
      rfl
  · refine ev_neg (by simpa using h) (ev_some ?_)
    unfold bitsOk
    rw [decide_eq_false (show ¬ ((1 ≤ n ∧ n ≤ 10) ∧ (l.length : Int) = (n - 1) / 8 + 1) from fun x => h x.1)]
    rfl

/-! ### spec_BitsSet -/
theorem spec_bit_all : ∀ (x : Fin 256) (j : Fin 8) (on : Bool), (((x.val : Int) / 2 ^ j.val % 2 == 1) != on) = true → Go.bits .xor .u8 (x.val : Int) (shl .u8 1 (j.val : Int)) = setBit (x.val : Int) j.val on := by decide +kernel
theorem spec_bit (x j : Int) (on : Bool) (h0 : 0 ≤ x) (h1 : x ≤ 255) (j0 : 0 ≤ j) (j1 : j < 8) (h : ((x / 2 ^ j.toNat % 2 == 1) != on) = true) : Go.bits .xor .u8 x (shl .u8 1 j) = setBit x j.toNat on := by
  have := spec_bit_all ⟨x.toNat, by omega⟩ ⟨j.toNat, by omega⟩ on
  simp only [Int.toNat_of_nonneg h0, Int.toNat_of_nonneg j0] at this
  exact this h
theorem bitOf_in (l : List Int) (i : Int) (h0 : 0 ≤ i) (h1 : i < 8 * (l.length : Int)) : bitOf l i = (rd l (i / 8) / 2 ^ (i % 8).toNat % 2 == 1) := by
  unfold bitOf
  rw [decide_eq_true h0, decide_eq_true h1]
  rfl
theorem spec_bitsSet (l : List Int) (n i : Int) (on : Bool) (hb : Bytes l) (hl : l.length ≤ 1048576) : Ev (fun k => spec_BitsSet.f k l n i on) (bitsSet l n i on) := by
  unfold spec_BitsSet.f bitsSet
  have no : Ev (fun k => spec_BitsSet.j0 k l i on true) ([], false) := Ev.step (f := fun _ => some ([], false)) (fun _ => by simp only [spec_BitsSet.j0, if_true]) (Ev.now _)
  refine Ev.bind (spec_bitsOk l n hb hl) ?_
  by_cases h : bitsOk l n = true
  · have hk := bitsOk_iff.1 h
    refine ev_pos h ?_
    rw [wrap_in (n := n - 1) (by omega) (by omega)]
    have e : spec_l01In.f i 0 (n - 1) = some (decide (0 ≤ i ∧ i < n)) := by
      unfold spec_l01In.f
      by_cases h0 : i ≥ 0
      · rw [if_pos h0]
        congr 1
        exact decide_eq_decide.2 (by omega)
      · rw [if_neg h0, decide_eq_false (by omega)]
    refine ev_bind0 e ?_
    by_cases h2 : 0 ≤ i ∧ i < n
    · rw [if_pos ⟨h, h2.1, h2.2⟩, decide_eq_true h2]
      have hc : spec_l01Copy.f l = some l := by
        unfold spec_l01Copy.f
        simp only [Option.bind_some, List.nil_append, List.length_nil, Nat.zero_add]
        rw [if_pos (by omega)]
      have hi : i < 8 * (l.length : Int) := by omega
      have hs := spec_has l i hb hl (by omega)
      have hv := hb.val (i / 8)
      have e1 : Int.tdiv i 8 = i / 8 := Int.tdiv_eq_ediv_of_nonneg h2.1
      have e2 : Int.tmod i 8 = i % 8 := Int.tmod_eq_emod_of_nonneg h2.1
      have e3 : wrap64 (i / 8) = i / 8 := wrap_in (by omega) (by omega)
      have eb := bitOf_in l i h2.1 hi
      by_cases hd : (bitOf l i != on) = true
      · have hx := spec_bit (rd l (i / 8)) (i % 8) on hv.1 hv.2 (by omega) (by omega) (by rw [← eb]; exact hd)
        refine Ev.step (f := fun _ => some (setAt l i on, true)) (fun _ => ?_) (Ev.now _)
        have c1 : (0 : Int) ≤ i / 8 := by omega
        have c2 : i / 8 < (l.length : Int) := by omega
        have c3 : (0 : Int) ≤ i % 8 := by omega
        simp only [spec_BitsSet.j0, Bool.not_true, Bool.false_eq_true, if_false, hc, hs, Option.bind_some, if_pos hd, e1, e2, e3, if_pos c1, if_pos c2, if_pos c3, hx, setAt]
      · have hset : setAt l i on = l := by
          unfold setAt setBit
          rw [if_neg (by rw [← eb]; exact hd)]
          have hlt : (i / 8).toNat < l.length := by omega
          have : rd l (i / 8) = l[(i / 8).toNat] := by
            have := rd_at hlt
            rwa [Int.toNat_of_nonneg (by omega)] at this
          rw [this]
          exact List.set_getElem_self hlt
        rw [hset]
        refine Ev.step (f := fun _ => some (l, true)) (fun _ => ?_) (Ev.now _)
        simp only [spec_BitsSet.j0, Bool.not_true, Bool.false_eq_true, if_false, hc, hs, Option.bind_some, if_neg hd]
    · rw [if_neg (fun x => h2 x.2), decide_eq_false h2]
      exact no
  · rw [if_neg (fun x => h x.1)]
    exact ev_neg h no

/-! ### spec_BitsOf -/
def foldSet (b l : List Int) : List Int := l.foldl (fun b i => setAt b i true) b
def newBits (n : Int) : List Int := if 1 ≤ n ∧ n ≤ 10 then List.replicate ((n - 1) / 8 + 1).toNat 0 else []
def bitsOf (l : List Int) (n : Int) : List Int × Bool := if (1 ≤ n ∧ n ≤ 10) ∧ ∀ x ∈ l, 0 ≤ x ∧ x < n then (foldSet (newBits n) l, true) else ([], false)
theorem foldSet_length (b l : List Int) : (foldSet b l).length = b.length := by
  induction l generalizing b with
  | nil => rfl
  | cons x l ih => exact (ih _).trans (setAt_length _ _ _)
theorem newBits_length (n : Int) : (newBits n).length ≤ 2 := by
  unfold newBits
  split
  · simp; omega
  · simp
theorem newBits_bytes (n : Int) : Bytes (newBits n) := by
  unfold newBits
  split
  · intro x hx
    rw [List.eq_of_mem_replicate hx]
    omega
  · exact Bytes.nil
theorem rd_zeros (m : Nat) (i : Int) : rd (List.replicate m 0) i = 0 := by
  unfold rd
  rw [List.getD_eq_getElem?_getD, List.getElem?_replicate]
  split <;> rfl
theorem bitOf_zeros (m : Nat) (i : Int) : bitOf (List.replicate m 0) i = false := by
  unfold bitOf
  rw [rd_zeros]
  simp
theorem newBits_ok (n : Int) (h : 1 ≤ n ∧ n ≤ 10) : bitsOk (newBits n) n = true := by
  rw [bitsOk_iff]
  unfold newBits
  rw [if_pos h]
  refine ⟨⟨h, by simp; omega⟩, fun i hi => ?_⟩
  rw [bitOf_zeros] at hi
  cases hi
theorem bitsOf_length (l : List Int) (n : Int) : (bitsOf l n).1.length ≤ 2 := by
  unfold bitsOf
  split
  · rw [foldSet_length]
    exact newBits_length n
  · simp
theorem spec_bitsOf_bad (l : List Int) (n : Int) (hl : l.length ≤ 1048576) : ∀ (d i : Nat), l.length - i = d → i ≤ l.length → Ev (fun k => spec_BitsOf.l0 k n [] false l (l.length : Int) (i : Int)) ([], false) := by
  intro d
  induction d with
  | zero =>
    intro i hd hi
    exact Ev.step (fun _ => rfl) (ev_neg (by omega) (ev_neg (by decide) (Ev.now _)))
  | succ d ih =>
    intro i hd hi
    have e : bitsSet [] n (rd l i) true = ([], false) := by
      unfold bitsSet
      rw [if_neg]
      intro h
      have := (bitsOk_iff.1 h.1).1
      simp at this
      omega
    have hs := spec_bitsSet [] n (rd l i) true Bytes.nil (by simp)
    rw [e] at hs
    refine Ev.step (fun _ => rfl) (ev_pos (by omega) (ev_pos (by omega) (ev_pos (by omega) (Ev.bind hs (ev_neg (by decide) ?_)))))
    rw [wrap_succ (by omega)]
    exact ih (i + 1) (by omega) (by omega)
theorem spec_bitsOf_good (l : List Int) (n : Int) (hl : l.length ≤ 1048576) : ∀ (d i : Nat) (b : List Int), l.length - i = d → i ≤ l.length → bitsOk b n = true → Bytes b → b.length ≤ 2 → Ev (fun k => spec_BitsOf.l0 k n b true l (l.length : Int) (i : Int)) (if ∀ x ∈ l.drop i, 0 ≤ x ∧ x < n then (foldSet b (l.drop i), true) else ([], false)) := by
  intro d
  induction d with
  | zero =>
    intro i b hd hi hb hy hlen
    rw [List.drop_of_length_le (by omega), if_pos (fun x hx => by cases hx)]
    exact Ev.step (fun _ => rfl) (ev_neg (by omega) (ev_pos rfl (Ev.now _)))
  | succ d ih =>
    intro i b hd hi hb hy hlen
    have hi' : i < l.length := by omega
    have hs := spec_bitsSet b n l[i] true hy (by omega)
    rw [List.drop_eq_getElem_cons hi']
    refine Ev.step (fun _ => rfl) (ev_pos (by omega) (ev_pos (by omega) (ev_pos (by omega) ?_)))
    rw [rd_at hi', wrap_succ (by omega)]
    by_cases h : 0 ≤ l[i] ∧ l[i] < n
    · have e : bitsSet b n l[i] true = (setAt b l[i] true, true) := by
        unfold bitsSet
        rw [if_pos ⟨hb, h.1, h.2⟩]
      rw [e] at hs
      refine Ev.bind hs (ev_pos rfl ?_)
      have := ih (i + 1) (setAt b l[i] true) (by omega) (by omega) (setAt_ok hy hb _ _ h.1 h.2) (setAt_bytes hy _ h.1 _) (by rw [setAt_length]; exact hlen)
      by_cases ha : ∀ x ∈ l.drop (i + 1), 0 ≤ x ∧ x < n
      · rw [if_pos ha] at this
        rw [if_pos (fun x hx => by rcases List.mem_cons.1 hx with rfl | hx; exact h; exact ha x hx)]
        exact this
      · rw [if_neg ha] at this
        rw [if_neg (fun hall => ha (fun x hx => hall x (List.mem_cons_of_mem _ hx)))]
        exact this
    · have e : bitsSet b n l[i] true = ([], false) := by
        unfold bitsSet
        rw [if_neg (fun x => h x.2)]
      rw [e] at hs
      rw [if_neg (fun hall => h (hall _ List.mem_cons_self))]
      exact Ev.bind hs (ev_pos rfl (spec_bitsOf_bad l n hl d (i + 1) (by omega) (by omega)))
theorem spec_newBits (n : Int) : spec_BitsNew.f n = some (newBits n) := by
  unfold spec_BitsNew.f newBits
  rw [spec_signers1]
  simp only [Option.bind_some]
  by_cases h : 1 ≤ n ∧ n ≤ 10
  · rw [if_pos (by simpa using h), if_pos h, spec_bitsSize1 n h.1 h.2]
    simp only [Option.bind_some]
    rw [if_pos (by omega), if_pos (by omega)]
  · rw [if_neg (by simpa using h), if_neg h]
theorem spec_bitsOf (l : List Int) (n : Int) (hw : ∀ x ∈ l, -9223372036854775808 ≤ x ∧ x ≤ 9223372036854775807) (hl : l.length ≤ 1048576) : Ev (fun k => spec_BitsOf.f k l n) (bitsOf l n) := by
  unfold spec_BitsOf.f bitsOf
  refine ev_bind0 (spec_newBits n) (ev_bind0 (spec_signers1 n) ?_)
  by_cases h : 1 ≤ n ∧ n ≤ 10
  · rw [decide_eq_true h]
    have := spec_bitsOf_good l n hl _ 0 (newBits n) rfl (by omega) (newBits_ok n h) (newBits_bytes n) (newBits_length n)
    rw [List.drop_zero] at this
    by_cases ha : ∀ x ∈ l, 0 ≤ x ∧ x < n
    · rw [if_pos ⟨h, ha⟩]
      rw [if_pos ha] at this
      exact this
    · rw [if_neg (fun x => ha x.2)]
      rw [if_neg ha] at this
      exact this
  · rw [if_neg (fun x => h x.1), decide_eq_false h]
    have e : newBits n = [] := by unfold newBits; rw [if_neg h]
    rw [e]
    exact spec_bitsOf_bad l n hl _ 0 rfl (by omega)

/-! ### laws_toIntS -/
theorem toIntS_l0 (l : List Int) (hl : l.length ≤ 1048576) : ∀ (d i : Nat) (ys : List Int), l.length - i = d → i ≤ l.length → ys.length = l.length → ys.take i = l.take i → Ev (fun k => laws_toIntS.l0 k l ys (i : Int)) l := by
  intro d
  induction d with
  | zero =>
    intro i ys hd hi hy ht
    refine Ev.step (fun _ => rfl) (ev_neg (by omega) (ev_some ?_))
    rw [List.take_of_length_le (by omega), List.take_of_length_le (by omega)] at ht
    exact ht
  | succ d ih =>
    intro i ys hd hi hy ht
    refine Ev.step (fun _ => rfl) (ev_pos (by omega) (ev_pos (by omega) (ev_pos (by omega) ?_)))
    rw [wrap_succ (by omega), rd_at (show i < l.length by omega), Int.toNat_natCast]
    exact ih (i + 1) _ (by omega) (by omega) (by simpa using hy) (set_take_succ ys l i (by omega) (by omega) ht)
theorem toIntS_ev (l : List Int) (hl : l.length ≤ 1048576) : Ev (fun k => laws_toIntS.f k l) l := by
  unfold laws_toIntS.f
  refine ev_pos (by omega) (ev_pos (by omega) ?_)
  rw [Int.toNat_natCast]
  exact toIntS_l0 l hl _ 0 _ rfl (by omega) (by simp) (by simp)

/-! ### impl_BitsOf -/
theorem or_bit_all : ∀ (x : Fin 256) (j : Fin 8), Go.bits .or .u8 (x.val : Int) (shl .u8 1 (j.val : Int)) = setBit (x.val : Int) j.val true := by decide +kernel
theorem or_bit (x j : Int) (h0 : 0 ≤ x) (h1 : x ≤ 255) (j0 : 0 ≤ j) (j1 : j < 8) : Go.bits .or .u8 x (shl .u8 1 j) = setBit x j.toNat true := by
  have := or_bit_all ⟨x.toNat, by omega⟩ ⟨j.toNat, by omega⟩
  simp only [Int.toNat_of_nonneg h0, Int.toNat_of_nonneg j0] at this
  exact this
theorem impl_signersN (n : Int) : impl_within.f n 1 10 = some (decide (1 ≤ n ∧ n ≤ 10)) := by
  unfold impl_within.f
  by_cases h0 : 1 ≤ n
  · rw [if_pos h0]
    congr 1
    exact decide_eq_decide.2 (by omega)
  · rw [if_neg h0, decide_eq_false (by omega)]
theorem impl_newBits (n : Int) : impl_BitsNew.f n = some (newBits n) := by
  unfold impl_BitsNew.f newBits
  rw [impl_signersN]
  simp only [Option.bind_some]
  by_cases h : 1 ≤ n ∧ n ≤ 10
  · have e : impl_BitsSize.f n = some ((n - 1) / 8 + 1) := spec_bitsSize1 n h.1 h.2
    rw [if_pos (by simpa using h), if_pos h, e]
    simp only [Option.bind_some]
    rw [if_pos (by omega), if_pos (by omega)]
  · rw [if_neg (by simpa using h), if_neg h]
theorem impl_bitsOf_l0 (l : List Int) (n : Int) (hn : 1 ≤ n ∧ n ≤ 10) (hl : l.length ≤ 1048576) : ∀ (d i : Nat) (b : List Int), l.length - i = d → i ≤ l.length → Bytes b → (b.length : Int) = (n - 1) / 8 + 1 → Ev (fun k => impl_BitsOf.l0 k n b l (l.length : Int) (i : Int)) (if ∀ x ∈ l.drop i, 0 ≤ x ∧ x < n then (foldSet b (l.drop i), true) else ([], false)) := by
  intro d
  induction d with
  | zero =>
    intro i b hd hi hy hlen
    rw [List.drop_of_length_le (by omega), if_pos (fun x hx => by cases hx)]
    exact Ev.step (fun _ => rfl) (ev_neg (by omega) (Ev.now _))
  | succ d ih =>
    intro i b hd hi hy hlen
    have hi' : i < l.length := by omega
    rw [List.drop_eq_getElem_cons hi']
    refine Ev.step (fun _ => rfl) (ev_pos (by omega) (ev_pos (by omega) (ev_pos (by omega) ?_)))
    rw [rd_at hi', wrap_succ (by omega), wrap_in (n := n - 1) (by omega) (by omega)]
    have e : impl_within.f l[i] 0 (n - 1) = some (decide (0 ≤ l[i] ∧ l[i] < n)) := by
      unfold impl_within.f
      by_cases h0 : 0 ≤ l[i]
      · rw [if_pos h0]
        congr 1
        exact decide_eq_decide.2 (by omega)
      · rw [if_neg h0, decide_eq_false (by omega)]
    refine ev_bind0 e ?_
    by_cases h : 0 ≤ l[i] ∧ l[i] < n
    · have hv := hy.val (l[i] / 8)
      rw [Int.tdiv_eq_ediv_of_nonneg h.1, Int.tmod_eq_emod_of_nonneg h.1, wrap_in (n := l[i] / 8) (by omega) (by omega), or_bit _ _ hv.1 hv.2 (by omega) (by omega)]
      refine ev_pos (decide_eq_true h) (ev_pos (by omega) (ev_pos (by omega) (ev_pos (by omega) ?_)))
      have := ih (i + 1) (setAt b l[i] true) (by omega) (by omega) (setAt_bytes hy _ h.1 _) (by rw [setAt_length]; exact hlen)
      by_cases ha : ∀ x ∈ l.drop (i + 1), 0 ≤ x ∧ x < n
      · rw [if_pos ha] at this
        rw [if_pos (fun x hx => by rcases List.mem_cons.1 hx with rfl | hx; exact h; exact ha x hx)]
        exact this
      · rw [if_neg ha] at this
        rw [if_neg (fun hall => ha (fun x hx => hall x (List.mem_cons_of_mem _ hx)))]
        exact this
    · rw [if_neg (fun hall => h (hall _ List.mem_cons_self))]
      exact ev_neg (by simp only [decide_eq_true_eq]; exact h) (Ev.now _)
theorem impl_bitsOf (l : List Int) (n : Int) (hw : ∀ x ∈ l, -9223372036854775808 ≤ x ∧ x ≤ 9223372036854775807) (hl : l.length ≤ 1048576) : Ev (fun k => impl_BitsOf.f k l n) (bitsOf l n) := by
  unfold impl_BitsOf.f bitsOf
  refine ev_bind0 (impl_signersN n) ?_
  by_cases h : 1 ≤ n ∧ n ≤ 10
  · refine ev_pos (decide_eq_true h) (ev_bind0 (impl_newBits n) ?_)
    have hk := (bitsOk_iff.1 (newBits_ok n h)).1.2
    have := impl_bitsOf_l0 l n h hl _ 0 (newBits n) rfl (by omega) (newBits_bytes n) hk
    rw [List.drop_zero] at this
    by_cases ha : ∀ x ∈ l, 0 ≤ x ∧ x < n
    · rw [if_pos ⟨h, ha⟩]
      rw [if_pos ha] at this
      exact this
    · rw [if_neg (fun x => ha x.2)]
      rw [if_neg ha] at this
      exact this
  · rw [if_neg (fun x => h x.1)]
    exact ev_neg (by simp only [decide_eq_true_eq]; exact h) (Ev.now _)

attribute [local congr] bind_lazy ite_lazy
theorem FnExactBitsOf : laws_FnExactBitsOf.Pure := by
  intro l n _ _ hw_l hw_n
  by_cases g_l : (l.length : Int) > 1048576
  · exact ⟨0, by simp only [laws_FnExactBitsOf.f, if_pos g_l]⟩
  obtain ⟨K0, t_l⟩ := toIntS_ev l (by omega)
  obtain ⟨K1, q_l⟩ := eqIntS_same l (by omega)
  obtain ⟨K2, es⟩ := spec_bitsOf l n (fun x hx => wf_i64.1 (hw_l x hx)) (by omega)
  obtain ⟨K3, ei⟩ := impl_bitsOf l n (fun x hx => wf_i64.1 (hw_l x hx)) (by omega)
  have hr0 := bitsOf_length l n
  generalize bitsOf l n = r at es ei hr0
  obtain ⟨r0, r1⟩ := r
  simp only at hr0
  obtain ⟨K4, m_l⟩ := markIntS_ev l (1) (by omega) (by omega)
  have neg0 : ¬ (1 + (l.length : Int) < 0) := by omega
  obtain ⟨K5, q_r0⟩ := eqByteS_same r0 (by omega)
  obtain ⟨K6, m_r0⟩ := markByteS_ev r0 (1) (by omega) (by omega)
  obtain ⟨K7, h_r0⟩ := heldByteS_ev (1) r0.length (by omega) (by omega)
  have neg1 : ¬ (1 + (r0.length : Int) < 0) := by omega
  refine ⟨K0 + K1 + K2 + K3 + K4 + K5 + K6 + K7 + 4, ?_⟩
  simp (disch := omega) only [laws_FnExactBitsOf.f, laws_FnExactBitsOf.j0, laws_FnExactBitsOf.j1, laws_FnExactBitsOf.j2, if_neg g_l, t_l, q_l, es, ei, m_l, q_r0, m_r0, h_r0, if_neg neg0, if_neg neg1, bind_at, bne_self_eq_false, Bool.not_true, Bool.not_false, Bool.false_eq_true, if_true, if_false]

end Go.Proofs.Ythddmjogfolafaa.Pure
