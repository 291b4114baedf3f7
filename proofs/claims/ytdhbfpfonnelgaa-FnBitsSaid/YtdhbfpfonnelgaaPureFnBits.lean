/- The bitmap round trip of two drawn bitmaps: the printed law comes to true. Conditions: those of the printed statement alone. -/
import Derived.Test.YtdhbfpfonnelgaaQFnBitsx6
import Derived.Test.YtdhbfpfonnelgaaLib
import Derived.Test.YtdhbfpfonnelgaaLibBits
import Derived.Test.YtdhbfpfonnelgaaLibDraw
set_option linter.unusedVariables false
set_option linter.unusedSimpArgs false
set_option maxRecDepth 4000
namespace Go.Proofs.Ytdhbfpfonnelgaa.Pure
open Go.RowKit Go.Proofs.Ytdhbfpfonnelgaa.QFnBits Go.Proofs.YtdhbfpfonnelgaaW.PrintWords Go.Proofs.YtdhbfpfonnelgaaW.PrintLast Go.Proofs.YtdhbfpfonnelgaaW.PrintMore Go.Proofs.Ytdhbfpfonnelgaa.Lib

/-! ### spec_MakeBytes -/
theorem l01New_ev (l : List Int) (hl : l.length ≤ 1048576) : ∀ (d i : Nat) (h : Int), l.length - i = d → i ≤ l.length → ∃ h', Ev (fun k => spec_l01New.l0 k l h (i : Int)) (l, 0, h') := by
  intro d
  induction d with
  | zero =>
    intro i h hd hi
    exact ⟨h, Ev.step (fun _ => rfl) (ev_neg (by omega) (Ev.now _))⟩
  | succ d ih =>
    intro i h hd hi
    by_cases h4 : (i : Int) < 4000
    · obtain ⟨h', e⟩ := ih (i + 1) (Go.bits .and .i64 (wrap64 ((wrap64 ((wrap64 (h * 37)) + (wrap64 (rd l i)))) + 7)) 1073741823) (by omega) (by omega)
      refine ⟨h', Ev.step (fun _ => rfl) (ev_pos (by omega) (ev_pos h4 (ev_pos (by omega) ?_)))⟩
      rw [wrap_succ (by omega)]
      exact e
    · exact ⟨h, Ev.step (fun _ => rfl) (ev_pos (by omega) (ev_neg h4 (Ev.now _)))⟩
theorem l01New_some (l : List Int) (hl : l.length ≤ 1048576) : ∃ h, Ev (fun k => spec_l01New.f k l) (l, 0, h) := l01New_ev l hl _ 0 _ rfl (by omega)
/-- A cursor's byte: a byte; the cursor stays in its place or goes on. -/
theorem l01Byte_some (l : List Int) (i h : Int) (hi : 0 ≤ i) (hl : l.length ≤ 1048576) (h1 : i ≤ l.length) : ∃ b i' h', spec_l01Byte.f l i h = some (b, i', h') ∧ 0 ≤ b ∧ b ≤ 255 ∧ 0 ≤ i' ∧ i' ≤ l.length := by
  unfold spec_l01Byte.f
  by_cases h0 : i < (l.length : Int)
  · rw [if_pos h0, if_pos hi, wrap_in (n := i + 1) (by omega) (by omega)]
    exact ⟨_, _, _, rfl, (and255 _).1, (and255 _).2, by omega, by omega⟩
  · rw [if_neg h0]
    exact ⟨_, _, _, rfl, (and255 _).1, (and255 _).2, hi, h1⟩
theorem l01Below_some (l : List Int) (i h n : Int) (hi : 0 ≤ i) (hl : l.length ≤ 1048576) (h1 : i ≤ l.length) : ∃ b i' h', spec_l01Below.f l i h n = some (b, i', h') ∧ 0 ≤ b ∧ (0 < n → b < n) ∧ 0 ≤ i' ∧ i' ≤ l.length := by
  unfold spec_l01Below.f
  by_cases h0 : n ≤ 0
  · rw [if_pos h0]
    exact ⟨_, _, _, rfl, by omega, by omega, hi, h1⟩
  rw [if_neg h0]
  obtain ⟨b, i1, g1, e1, b0, b1, c0, c1⟩ := l01Byte_some l i h hi hl h1
  by_cases h2 : n ≤ 256
  · rw [if_pos h2, e1]
    simp only [Option.bind_some]
    rw [if_neg (by omega), Int.tmod_eq_emod_of_nonneg b0]
    exact ⟨_, _, _, rfl, Int.emod_nonneg _ (by omega), fun _ => Int.emod_lt_of_pos _ (by omega), c0, c1⟩
  · rw [if_neg h2]
    obtain ⟨x, i2, g2, e2, x0, x1, d0, d1⟩ := l01Byte_some l i1 g1 c0 hl c1
    obtain ⟨y, i3, g3, e3, y0, y1, f0, f1⟩ := l01Byte_some l i2 g2 d0 hl d1
    obtain ⟨z, i4, g4, e4, z0, z1, m0, m1⟩ := l01Byte_some l i3 g3 f0 hl f1
    rw [e1]
    simp only [Option.bind_some]
    rw [e2]
    simp only [Option.bind_some]
    rw [e3]
    simp only [Option.bind_some]
    rw [e4]
    simp only [Option.bind_some]
    rw [if_neg (by omega), wrap_in (n := b * 16777216) (by omega) (by omega), wrap_in (n := x * 65536) (by omega) (by omega), wrap_in (n := y * 256) (by omega) (by omega), wrap_in (n := b * 16777216 + x * 65536) (by omega) (by omega), wrap_in (n := b * 16777216 + x * 65536 + y * 256) (by omega) (by omega), wrap_in (by omega) (by omega), Int.tmod_eq_emod_of_nonneg (by omega)]
    exact ⟨_, _, _, rfl, Int.emod_nonneg _ (by omega), fun _ => Int.emod_lt_of_pos _ (by omega), m0, m1⟩

/-! ### spec_MakeNum -/
theorem makeNum_some (l : List Int) (n : Int) (hl : l.length ≤ 1048576) : ∃ r, Ev (fun k => spec_MakeNum.f k l n) r ∧ 0 ≤ r ∧ (0 < n → r < n) := by
  obtain ⟨h, e⟩ := l01New_some l hl
  obtain ⟨r, i', h', e2, r0, r1, _, _⟩ := l01Below_some l 0 (wrap64 (h + 777)) n (by omega) hl (by omega)
  exact ⟨r, Ev.bind e (ev_bind0 e2 (Ev.now _)), r0, r1⟩

/-! ### impl_BitsList -/
theorem impl_has (l : List Int) (i : Int) (hb : Bytes l) (hl : l.length ≤ 1048576) (hi : -9223372036854775808 ≤ i ∧ i ≤ 9223372036854775807) : impl_BitsHas.f l i = some (bitOf l i) := by
  unfold impl_BitsHas.f bitOf impl_within.f
  rw [wrap_in (n := 8 * (l.length : Int)) (by omega) (by omega), wrap_in (by omega) (by omega)]
  by_cases h0 : 0 ≤ i
  · have ht : Int.tdiv i 8 = i / 8 := Int.tdiv_eq_ediv_of_nonneg h0
    have hm : Int.tmod i 8 = i % 8 := Int.tmod_eq_emod_of_nonneg h0
    rw [if_pos h0, ht, hm, wrap_in (n := i / 8) (by omega) (by omega)]
    by_cases h2 : i < 8 * (l.length : Int)
    · have hv := hb.val (i / 8)
      have hs := shr_small8 (k := .u8) (rd l (i / 8)) (i % 8) (by omega) (by omega) (by decide)
      have hd : 0 ≤ rd l (i / 8) / 2 ^ (i % 8).toNat := Int.ediv_nonneg hv.1 (Int.pow_nonneg (by decide))
      have hd2 : rd l (i / 8) / 2 ^ (i % 8).toNat < 256 := by
        have := Int.ediv_le_self (2 ^ (i % 8).toNat) hv.1
        omega
      have hx : Go.bits .and .u8 (rd l (i / 8) / 2 ^ (i % 8).toNat) 1 = rd l (i / 8) / 2 ^ (i % 8).toNat % 2 := bits_mask .u8 8 (by decide) wraps_u8 1 (by decide) _ hd (by omega)
      have hq : decide (i ≤ 8 * (l.length : Int) - 1) = true := by simp; omega
      simp only [hq, Option.bind_some, if_true]
      rw [if_pos (by omega), if_pos (by omega), if_pos (by omega), hs, hx]
      simp [h0, h2]
    · have hq : decide (i ≤ 8 * (l.length : Int) - 1) = false := by simp; omega
      simp only [hq, Option.bind_some]
      simp [h2]
  · rw [if_neg h0]
    simp [h0]
theorem impl_bitsList_l0 (l : List Int) (hb : Bytes l) (hl : l.length ≤ 1048576) : ∀ (d i : Nat), 8 * l.length - i = d → i ≤ 8 * l.length → Ev (fun k => impl_BitsList.l0 k l (bitsTo l i) (8 * (l.length : Int)) (i : Int)) (bitList l) := by
  intro d
  induction d with
  | zero =>
    intro i hd hi
    refine Ev.step (fun _ => rfl) (ev_neg (by omega) (ev_some ?_))
    rw [show i = 8 * l.length by omega]
    rfl
  | succ d ih =>
    intro i hd hi
    have hlen := bitsTo_length l i
    have := ih (i + 1) (by omega) (by omega)
    rw [bitsTo_succ] at this
    refine Ev.step (fun _ => rfl) (ev_pos (by omega) (ev_bind0 (impl_has l i hb hl (by omega)) ?_))
    rw [wrap_succ (by omega)]
    by_cases e : bitOf l (i : Int) = true
    · rw [if_pos e] at this
      exact ev_pos e (ev_pos (by omega) this)
    · rw [if_neg e] at this
      exact ev_neg e this
theorem impl_bitsList (l : List Int) (hb : Bytes l) (hl : l.length ≤ 1048576) : Ev (fun k => impl_BitsList.f k l) (bitList l) := by
  unfold impl_BitsList.f
  rw [wrap_in (by omega) (by omega)]
  exact impl_bitsList_l0 l hb hl _ 0 rfl (by omega)

/-! ### impl_BitsAnd -/
def andI (a b : List Int) : List Int := List.zipWith (fun x y => Go.bits .and .u8 x y) a b
theorem zip_snocI (f : Int → Int → Int) (a b : List Int) (i : Nat) (ha : i < a.length) (hb : i < b.length) : List.zipWith f (a.take (i + 1)) (b.take (i + 1)) = List.zipWith f (a.take i) (b.take i) ++ [f a[i] b[i]] := by
  rw [List.take_succ_eq_append_getElem ha, List.take_succ_eq_append_getElem hb, List.zipWith_append (by simp; omega)]
  rfl
theorem impl_and_l0 (a b : List Int) (hl : a.length ≤ 1048576) (hab : a.length = b.length) : ∀ (d i : Nat), a.length - i = d → i ≤ a.length → Ev (fun k => impl_eachAtBitsAndF1.l0 k a b (andI (a.take i) (b.take i)) (a.length : Int) (i : Int)) (andI a b) := by
  intro d
  induction d with
  | zero =>
    intro i hd hi
    refine Ev.step (fun _ => rfl) (ev_neg (by omega) (ev_some ?_))
    rw [List.take_of_length_le (by omega), List.take_of_length_le (by omega)]
  | succ d ih =>
    intro i hd hi
    have ha : i < a.length := by omega
    have hb : i < b.length := by omega
    have hlen : (andI (a.take i) (b.take i)).length ≤ i := by
      unfold andI
      rw [List.length_zipWith, List.length_take]
      omega
    refine Ev.step (fun _ => rfl) (ev_pos (by omega) (ev_pos (by omega) (ev_pos (by omega) (ev_pos (by omega) ?_))))
    rw [rd_at ha, rd_at hb, wrap_succ (by omega)]
    refine ev_bind0 rfl (ev_pos (by omega) ?_)
    have := ih (i + 1) (by omega) (by omega)
    unfold andI at this ⊢
    rw [zip_snocI _ a b i ha hb] at this
    exact this
def bitsAndI (a b : List Int) : List Int := if a.length = b.length then andI a b else []
theorem impl_bitsAnd (a b : List Int) (hl : a.length ≤ 1048576) : Ev (fun k => impl_BitsAnd.f k a b) (bitsAndI a b) := by
  unfold impl_BitsAnd.f impl_eachAtBitsAndF1.f bitsAndI
  refine Ev.bind (a := bitsAndI a b) ?_ (Ev.now _)
  unfold bitsAndI
  by_cases h : a.length = b.length
  · rw [if_pos h]
    exact ev_pos (by omega) (impl_and_l0 a b hl h _ 0 rfl (by omega))
  · rw [if_neg h]
    exact ev_neg (by omega) (Ev.now _)

/-! ### impl_BitsOr -/
def orI (a b : List Int) : List Int := List.zipWith (fun x y => Go.bits .or .u8 x y) a b
theorem zip_snocIO (f : Int → Int → Int) (a b : List Int) (i : Nat) (ha : i < a.length) (hb : i < b.length) : List.zipWith f (a.take (i + 1)) (b.take (i + 1)) = List.zipWith f (a.take i) (b.take i) ++ [f a[i] b[i]] := by
  rw [List.take_succ_eq_append_getElem ha, List.take_succ_eq_append_getElem hb, List.zipWith_append (by simp; omega)]
  rfl
theorem impl_or_l0 (a b : List Int) (hl : a.length ≤ 1048576) (hab : a.length = b.length) : ∀ (d i : Nat), a.length - i = d → i ≤ a.length → Ev (fun k => impl_eachAtBitsOrF1.l0 k a b (orI (a.take i) (b.take i)) (a.length : Int) (i : Int)) (orI a b) := by
  intro d
  induction d with
  | zero =>
    intro i hd hi
    refine Ev.step (fun _ => rfl) (ev_neg (by omega) (ev_some ?_))
    rw [List.take_of_length_le (by omega), List.take_of_length_le (by omega)]
  | succ d ih =>
    intro i hd hi
    have ha : i < a.length := by omega
    have hb : i < b.length := by omega
    have hlen : (orI (a.take i) (b.take i)).length ≤ i := by
      unfold orI
      rw [List.length_zipWith, List.length_take]
      omega
    refine Ev.step (fun _ => rfl) (ev_pos (by omega) (ev_pos (by omega) (ev_pos (by omega) (ev_pos (by omega) ?_))))
    rw [rd_at ha, rd_at hb, wrap_succ (by omega)]
    refine ev_bind0 rfl (ev_pos (by omega) ?_)
    have := ih (i + 1) (by omega) (by omega)
    unfold orI at this ⊢
    rw [zip_snocIO _ a b i ha hb] at this
    exact this
def bitsOrI (a b : List Int) : List Int := if a.length = b.length then orI a b else []
theorem impl_bitsOr (a b : List Int) (hl : a.length ≤ 1048576) : Ev (fun k => impl_BitsOr.f k a b) (bitsOrI a b) := by
  unfold impl_BitsOr.f impl_eachAtBitsOrF1.f bitsOrI
  refine Ev.bind (a := bitsOrI a b) ?_ (Ev.now _)
  unfold bitsOrI
  by_cases h : a.length = b.length
  · rw [if_pos h]
    exact ev_pos (by omega) (impl_or_l0 a b hl h _ 0 rfl (by omega))
  · rw [if_neg h]
    exact ev_neg (by omega) (Ev.now _)

/-! ### impl_BitsOk -/
theorem impl_bitsSize1 (n : Int) (h0 : 1 ≤ n) (h1 : n ≤ 10) : impl_BitsSize.f n = some ((n - 1) / 8 + 1) := by
  unfold impl_BitsSize.f
  rw [if_neg (by omega), wrap_in (n := n - 1) (by omega) (by omega), Int.tdiv_eq_ediv_of_nonneg (by omega), wrap_in (n := (n - 1) / 8) (by omega) (by omega), wrap_in (by omega) (by omega)]
theorem impl_signers1 (n : Int) : impl_within.f n 1 10 = some (decide (1 ≤ n ∧ n ≤ 10)) := by
  unfold impl_within.f
  by_cases h0 : 1 ≤ n
  · rw [if_pos h0]
    congr 1
    simp
    omega
  · rw [if_neg h0]
    congr 1
    simp
    omega
theorem impl_bitsOk_l0 (n : Int) (s : List Int) (hl : s.length ≤ 9000000000000000000) : ∀ (d i : Nat), s.length - i = d → i ≤ s.length → Ev (fun k => impl_BitsOk.l0 k n s (s.length : Int) (i : Int)) ((s.drop i).all fun x => decide (x < n)) := by
  intro d
  induction d with
  | zero =>
    intro i hd hi
    refine Ev.step (fun _ => rfl) (ev_neg (by omega) (ev_some ?_))
    rw [List.drop_of_length_le (by omega)]
    rfl
  | succ d ih =>
    intro i hd hi
    have hi' : i < s.length := by omega
    refine Ev.step (fun _ => rfl) (ev_pos (by omega) (ev_pos (by omega) (ev_pos (by omega) ?_)))
    rw [rd_at hi', wrap_succ (by omega), List.drop_eq_getElem_cons hi', List.all_cons]
    by_cases e : s[i] ≥ n
    · refine ev_pos e (ev_some ?_)
      rw [decide_eq_false (by omega)]
      rfl
    · refine ev_neg e ?_
      rw [decide_eq_true (by omega)]
      exact ih (i + 1) (by omega) (by omega)
theorem impl_bitsOk (l : List Int) (n : Int) (hb : Bytes l) (hl : l.length ≤ 1048576) : Ev (fun k => impl_BitsOk.f k l n) (bitsOk l n) := by
  unfold impl_BitsOk.f
  have no : Ev (fun k => impl_BitsOk.j0 k l n true) false := Ev.step (f := fun _ => some false) (fun _ => by simp only [impl_BitsOk.j0, if_true]) (Ev.now _)
  refine ev_bind0 (impl_signers1 n) ?_
  by_cases h : 1 ≤ n ∧ n ≤ 10
  · refine ev_pos (by simpa using h) (ev_bind0 (impl_bitsSize1 n h.1 h.2) ?_)
    by_cases h2 : (l.length : Int) = (n - 1) / 8 + 1
    · rw [show ((l.length : Int) != (n - 1) / 8 + 1) = false by simp [h2]]
      have hlen := bitList_length l
      have e : bitsOk l n = (bitList l).all fun i => decide (i < n) := by
        unfold bitsOk
        rw [decide_eq_true (show (1 ≤ n ∧ n ≤ 10) ∧ (l.length : Int) = (n - 1) / 8 + 1 from ⟨h, h2⟩)]
        simp
      refine Ev.step (f := fun k => (impl_BitsList.f k l).bind fun t => impl_BitsOk.l0 k n t (t.length : Int) 0) (fun _ => by simp only [impl_BitsOk.j0, Bool.false_eq_true, if_false]) (Ev.bind (impl_bitsList l hb hl) ?_)
      rw [e]
      exact impl_bitsOk_l0 n (bitList l) (by omega) _ 0 rfl (by omega)
    · rw [show ((l.length : Int) != (n - 1) / 8 + 1) = true by simp [h2]]
      have e : bitsOk l n = false := by
        unfold bitsOk
        rw [decide_eq_false (show ¬ ((1 ≤ n ∧ n ≤ 10) ∧ (l.length : Int) = (n - 1) / 8 + 1) from fun x => h2 x.2)]
        rfl
      rw [e]
      exact no
  · refine ev_neg (by simpa using h) ?_
    have e : bitsOk l n = false := by
      unfold bitsOk
      rw [decide_eq_false (show ¬ ((1 ≤ n ∧ n ≤ 10) ∧ (l.length : Int) = (n - 1) / 8 + 1) from fun x => h x.1)]
      rfl
    rw [e]
    exact no

/-! ### impl_BitsCount -/
def pop (x : Int) : Int := x / 2 ^ 0 % 2 + x / 2 ^ 1 % 2 + x / 2 ^ 2 % 2 + x / 2 ^ 3 % 2 + x / 2 ^ 4 % 2 + x / 2 ^ 5 % 2 + x / 2 ^ 6 % 2 + x / 2 ^ 7 % 2
theorem ones_all : ∀ x : Fin 256, bits_OnesCount8.f (x.val : Int) = some (pop (x.val : Int)) ∧ 0 ≤ pop (x.val : Int) ∧ pop (x.val : Int) ≤ 8 := by decide +kernel
theorem ones_eq (x : Int) (h0 : 0 ≤ x) (h1 : x ≤ 255) : bits_OnesCount8.f x = some (pop x) ∧ 0 ≤ pop x ∧ pop x ≤ 8 := by
  have := ones_all ⟨x.toNat, by omega⟩
  simpa only [Int.toNat_of_nonneg h0] using this
theorem bitsTo_one (l : List Int) (n : Nat) : ((bitsTo l (n + 1)).length : Int) = (bitsTo l n).length + (if bitOf l (n : Int) = true then 1 else 0) := by
  rw [bitsTo_succ]
  split
  · simp
  · simp
theorem bit_num (l : List Int) (m j : Nat) (hm : m < l.length) (hj : j < 8) : (if bitOf l ((8 * m + j : Nat) : Int) = true then (1 : Int) else 0) = l[m] / 2 ^ j % 2 := by
  unfold bitOf
  rw [decide_eq_true (by omega), decide_eq_true (by omega), show ((8 * m + j : Nat) : Int) / 8 = (m : Int) by omega, rd_at hm, show (((8 * m + j : Nat) : Int) % 8).toNat = j by omega]
  simp only [Bool.true_and, beq_iff_eq]
  split <;> omega
theorem bitsTo_byte (l : List Int) (m : Nat) (hm : m < l.length) : ((bitsTo l (8 * (m + 1))).length : Int) = (bitsTo l (8 * m)).length + pop l[m] := by
  have b := fun j hj => bit_num l m j hm hj
  rw [show 8 * (m + 1) = 8 * m + 7 + 1 by omega, bitsTo_one, b 7 (by omega), bitsTo_one, b 6 (by omega), bitsTo_one, b 5 (by omega), bitsTo_one, b 4 (by omega), bitsTo_one, b 3 (by omega), bitsTo_one, b 2 (by omega), bitsTo_one, b 1 (by omega), bitsTo_one, show 8 * m = 8 * m + 0 from rfl, b 0 (by omega)]
  unfold pop
  omega
theorem impl_bitsCount_l0 (l : List Int) (hb : Bytes l) (hl : l.length ≤ 1048576) : ∀ (d i : Nat), l.length - i = d → i ≤ l.length → Ev (fun k => impl_BitsCount.l0 k ((bitsTo l (8 * i)).length : Int) l (l.length : Int) (i : Int)) ((bitList l).length : Int) := by
  intro d
  induction d with
  | zero =>
    intro i hd hi
    refine Ev.step (fun _ => rfl) (ev_neg (by omega) (ev_some ?_))
    rw [show i = l.length by omega]
    rfl
  | succ d ih =>
    intro i hd hi
    have hi' : i < l.length := by omega
    have hv := hb l[i] (List.getElem_mem hi')
    obtain ⟨o1, o2, o3⟩ := ones_eq l[i] hv.1 hv.2
    have hlen := bitsTo_length l (8 * i)
    refine Ev.step (fun _ => rfl) (ev_pos (by omega) (ev_pos (by omega) (ev_pos (by omega) ?_)))
    rw [rd_at hi']
    refine ev_bind0 o1 ?_
    rw [wrap_succ (by omega), wrap_in (by omega) (by omega), ← bitsTo_byte l i hi']
    exact ih (i + 1) (by omega) (by omega)
theorem impl_bitsCount (l : List Int) (hb : Bytes l) (hl : l.length ≤ 1048576) : Ev (fun k => impl_BitsCount.f k l) ((bitList l).length : Int) := impl_bitsCount_l0 l hb hl _ 0 rfl (by omega)

/-! ### impl_BitsSet -/
theorem impl_bit_all : ∀ (x : Fin 256) (j : Fin 8), Go.bits .andNot .u8 (x.val : Int) (shl .u8 1 (j.val : Int)) = setBit (x.val : Int) j.val false ∧ Go.bits .or .u8 (setBit (x.val : Int) j.val false) (shl .u8 1 (j.val : Int)) = setBit (x.val : Int) j.val true := by decide +kernel
theorem impl_bit (x j : Int) (h0 : 0 ≤ x) (h1 : x ≤ 255) (j0 : 0 ≤ j) (j1 : j < 8) : Go.bits .andNot .u8 x (shl .u8 1 j) = setBit x j.toNat false ∧ Go.bits .or .u8 (setBit x j.toNat false) (shl .u8 1 j) = setBit x j.toNat true := by
  have := impl_bit_all ⟨x.toNat, by omega⟩ ⟨j.toNat, by omega⟩
  simp only [Int.toNat_of_nonneg h0, Int.toNat_of_nonneg j0] at this
  exact this
theorem impl_bitsSet (l : List Int) (n i : Int) (on : Bool) (hb : Bytes l) (hl : l.length ≤ 1048576) : Ev (fun k => impl_BitsSet.f k l n i on) (bitsSet l n i on) := by
  unfold impl_BitsSet.f bitsSet
  have no : Ev (fun k => impl_BitsSet.j0 k l i on true) ([], false) := Ev.step (f := fun _ => some ([], false)) (fun _ => by simp only [impl_BitsSet.j0, if_true]) (Ev.now _)
  refine Ev.bind (impl_bitsOk l n hb hl) ?_
  by_cases h : bitsOk l n = true
  · have hk := bitsOk_iff.1 h
    refine ev_pos h ?_
    rw [wrap_in (n := n - 1) (by omega) (by omega)]
    have e : impl_within.f i 0 (n - 1) = some (decide (0 ≤ i ∧ i < n)) := by
      unfold impl_within.f
      by_cases h0 : 0 ≤ i
      · rw [if_pos h0]
        congr 1
        exact decide_eq_decide.2 (by omega)
      · rw [if_neg h0, decide_eq_false (by omega)]
    refine ev_bind0 e ?_
    by_cases h2 : 0 ≤ i ∧ i < n
    · rw [if_pos ⟨h, h2.1, h2.2⟩, decide_eq_true h2]
      have hc : impl_copyBytes.f l = some l := by
        unfold impl_copyBytes.f
        simp only [Option.bind_some, List.nil_append, List.length_nil, Nat.zero_add]
        rw [if_pos (by omega)]
      have hi : i < 8 * (l.length : Int) := by omega
      have hv := hb.val (i / 8)
      have e1 : Int.tdiv i 8 = i / 8 := Int.tdiv_eq_ediv_of_nonneg h2.1
      have e2 : Int.tmod i 8 = i % 8 := Int.tmod_eq_emod_of_nonneg h2.1
      have e3 : wrap64 (i / 8) = i / 8 := wrap_in (by omega) (by omega)
      obtain ⟨x1, x2⟩ := impl_bit (rd l (i / 8)) (i % 8) hv.1 hv.2 (by omega) (by omega)
      have c1 : (0 : Int) ≤ i / 8 := by omega
      have c2 : i / 8 < (l.length : Int) := by omega
      have c3 : (0 : Int) ≤ i % 8 := by omega
      have hr : rd (l.set (i / 8).toNat (setBit (rd l (i / 8)) (i % 8).toNat false)) (i / 8) = setBit (rd l (i / 8)) (i % 8).toNat false := by
        rw [rd_set l _ _ _ (by omega) c1, if_pos (by omega)]
      refine Ev.step (f := fun _ => some (setAt l i on, true)) (fun _ => ?_) (Ev.now _)
      cases on
      · simp only [impl_BitsSet.j0, Bool.not_true, Bool.false_eq_true, if_false, hc, Option.bind_some, e1, e2, e3, if_pos c1, if_pos c2, if_pos c3, x1, setAt]
      · simp only [impl_BitsSet.j0, Bool.not_true, Bool.false_eq_true, if_false, if_true, hc, Option.bind_some, e1, e2, e3, if_pos c1, if_pos c2, if_pos c3, x1, hr, x2, setAt, List.set_set]
    · rw [if_neg (fun x => h2 x.2), decide_eq_false h2]
      exact no
  · rw [if_neg (fun x => h x.1)]
    exact ev_neg h no

attribute [local congr] bind_lazy ite_lazy
theorem fb_or_all : ∀ (x : Fin 256) (j : Fin 8), Go.bits .or .u8 (x.val : Int) (shl .u8 1 (j.val : Int)) = setBit (x.val : Int) j.val true := by decide +kernel
theorem fb_or (x j : Int) (h0 : 0 ≤ x) (h1 : x ≤ 255) (j0 : 0 ≤ j) (j1 : j < 8) : Go.bits .or .u8 x (shl .u8 1 j) = setBit x j.toNat true := by
  have := fb_or_all ⟨x.toNat, by omega⟩ ⟨j.toNat, by omega⟩
  simp only [Int.toNat_of_nonneg h0, Int.toNat_of_nonneg j0] at this
  exact this
def fb_new (n : Int) : List Int := List.replicate ((n - 1) / 8 + 1).toNat 0
theorem fb_rd_zeros (m : Nat) (i : Int) : rd (List.replicate m 0) i = 0 := by
  unfold rd
  rw [List.getD_eq_getElem?_getD, List.getElem?_replicate]
  split <;> rfl
theorem fb_bit_zeros (m : Nat) (i : Int) : bitOf (List.replicate m 0) i = false := by
  unfold bitOf
  rw [fb_rd_zeros]
  simp
theorem fb_new_ok (n : Int) (h : 1 ≤ n ∧ n ≤ 10) : bitsOk (fb_new n) n = true := by
  rw [bitsOk_iff]
  unfold fb_new
  refine ⟨⟨h, by simp; omega⟩, fun i hi => ?_⟩
  rw [fb_bit_zeros] at hi
  cases hi
theorem fb_new_bytes (n : Int) : Bytes (fb_new n) := by
  intro x hx
  rw [List.eq_of_mem_replicate hx]
  omega
theorem fb_new_bits (n : Int) : bitList (fb_new n) = [] := by
  apply List.eq_nil_iff_forall_not_mem.2
  intro i hi
  rw [mem_bitList] at hi
  unfold fb_new at hi
  rw [fb_bit_zeros] at hi
  cases hi
theorem fb_new_length (n : Int) (h : 1 ≤ n ∧ n ≤ 10) : (fb_new n).length ≤ 2 := by
  unfold fb_new
  simp
  omega
theorem fb_impl_new (n : Int) (h : 1 ≤ n ∧ n ≤ 10) : impl_BitsNew.f n = some (fb_new n) := by
  unfold impl_BitsNew.f fb_new
  rw [impl_signers1, decide_eq_true h, bind_at, if_pos rfl, impl_bitsSize1 n h.1 h.2, bind_at, if_pos (by omega), if_pos (by omega)]
theorem fb_spec_new (n : Int) (h : 1 ≤ n ∧ n ≤ 10) : spec_BitsNew.f n = some (fb_new n) := by
  have e1 : spec_l02Signers.f n = some true := by
    unfold spec_l02Signers.f spec_l01In.f
    rw [if_pos (by omega), bind_at, decide_eq_true (by omega)]
  have e2 : spec_BitsSize.f n = some ((n - 1) / 8 + 1) := impl_bitsSize1 n h.1 h.2
  unfold spec_BitsNew.f fb_new
  rw [e1, bind_at, if_pos rfl, e2, bind_at, if_pos (by omega), if_pos (by omega)]
/-! The drawn bitmap. -/
theorem fb_once (l : List Int) (i h : Int) (hi : 0 ≤ i) (hl : l.length ≤ 1048576) (h1 : i ≤ l.length) : ∃ b i' h', spec_l01Once.f l i h 3 = some (b, i', h') ∧ 0 ≤ i' ∧ i' ≤ l.length := by
  obtain ⟨r, i', h', e, _, _, c0, c1⟩ := l01Below_some l i h 3 hi hl h1
  refine ⟨(r == 0), i', h', ?_, c0, c1⟩
  unfold spec_l01Once.f
  rw [e, bind_at]
theorem fb_draw_l0 (l : List Int) (n : Int) (hn : 1 ≤ n ∧ n ≤ 10) (hl : l.length ≤ 1048576) : ∀ (d i : Nat) (b : List Int) (c h : Int), n.toNat - i = d → (i : Int) ≤ n → Bytes b → bitsOk b n = true → 0 ≤ c → c ≤ l.length → ∃ r c' h', Ev (fun k => spec_l02Draw.l0 k n b (i : Int) l c h) (r, c', h') ∧ bitsOk r n = true ∧ Bytes r := by
  intro d
  induction d with
  | zero =>
    intro i b c h hd hi hb ho c0 c1
    exact ⟨b, c, h, Ev.step (fun _ => rfl) (ev_neg (by omega) (Ev.now _)), ho, hb⟩
  | succ d ih =>
    intro i b c h hd hi hb ho c0 c1
    obtain ⟨o, c', h', e, d0, d1⟩ := fb_once l c h c0 hl c1
    have hk := (bitsOk_iff.1 ho).1.2
    cases o with
    | true =>
      obtain ⟨r, c2, h2, e2, q⟩ := ih (i + 1) b c' h' (by omega) (by omega) hb ho d0 d1
      refine ⟨r, c2, h2, Ev.step (fun _ => rfl) (ev_pos (by omega) (ev_bind0 e (ev_pos rfl ?_))), q⟩
      rw [wrap_succ (by omega)]
      exact e2
    | false =>
      obtain ⟨r, c2, h2, e2, q⟩ := ih (i + 1) (setAt b (i : Int) true) c' h' (by omega) (by omega) (setAt_bytes hb _ (by omega) _) (setAt_ok hb ho _ _ (by omega) (by omega)) d0 d1
      have hv := hb.val ((i : Int) / 8)
      refine ⟨r, c2, h2, Ev.step (fun _ => rfl) (ev_pos (by omega) (ev_bind0 e (ev_neg Bool.false_ne_true ?_))), q⟩
      rw [Int.tdiv_eq_ediv_of_nonneg (by omega), Int.tmod_eq_emod_of_nonneg (by omega), wrap_in (n := (i : Int) / 8) (by omega) (by omega), fb_or _ _ hv.1 hv.2 (by omega) (by omega), wrap_succ (by omega)]
      exact ev_pos (by omega) (ev_pos (by omega) (ev_pos (by omega) e2))
theorem fb_make (l : List Int) (n s : Int) (hn : 1 ≤ n ∧ n ≤ 10) (hl : l.length ≤ 1048576) : ∃ r, Ev (fun k => spec_MakeBits.f k l n s) r ∧ bitsOk r n = true ∧ Bytes r := by
  obtain ⟨h, e⟩ := l01New_some l hl
  obtain ⟨r, c, h2, e2, ho, hb⟩ := fb_draw_l0 l n hn hl _ 0 (fb_new n) 0 (wrap64 ((wrap64 (h + (wrap64 (100 * s)))) + 3)) rfl (by omega) (fb_new_bytes n) (fb_new_ok n hn) (by omega) (by omega)
  refine ⟨r, Ev.bind e (Ev.bind (a := (r, c, h2)) ?_ (Ev.now _)), ho, hb⟩
  unfold spec_l02Draw.f
  exact ev_bind0 (fb_spec_new n hn) e2
/-! The bitmap of a bitmap's list. -/
def fb_fold (b l : List Int) : List Int := l.foldl (fun b i => setAt b i true) b
theorem fb_of_l0 (l : List Int) (n : Int) (hn : 1 ≤ n ∧ n ≤ 10) (hl : l.length ≤ 1048576) (ha : ∀ x ∈ l, 0 ≤ x ∧ x < n) : ∀ (d i : Nat) (b : List Int), l.length - i = d → i ≤ l.length → Bytes b → (b.length : Int) = (n - 1) / 8 + 1 → Ev (fun k => impl_BitsOf.l0 k n b l (l.length : Int) (i : Int)) (fb_fold b (l.drop i), true) := by
  intro d
  induction d with
  | zero =>
    intro i b hd hi hy hlen
    rw [List.drop_of_length_le (by omega)]
    exact Ev.step (fun _ => rfl) (ev_neg (by omega) (Ev.now _))
  | succ d ih =>
    intro i b hd hi hy hlen
    have hi' : i < l.length := by omega
    rw [List.drop_eq_getElem_cons hi']
    refine Ev.step (fun _ => rfl) (ev_pos (by omega) (ev_pos (by omega) (ev_pos (by omega) ?_)))
    rw [rd_at hi', wrap_succ (by omega), wrap_in (n := n - 1) (by omega) (by omega)]
    have h := ha l[i] (List.getElem_mem hi')
    have e : impl_within.f l[i] 0 (n - 1) = some true := by
      unfold impl_within.f
      rw [if_pos h.1, decide_eq_true (by omega)]
    refine ev_bind0 e ?_
    have hv := hy.val (l[i] / 8)
    rw [Int.tdiv_eq_ediv_of_nonneg h.1, Int.tmod_eq_emod_of_nonneg h.1, wrap_in (n := l[i] / 8) (by omega) (by omega), fb_or _ _ hv.1 hv.2 (by omega) (by omega)]
    refine ev_pos rfl (ev_pos (by omega) (ev_pos (by omega) (ev_pos (by omega) ?_)))
    exact ih (i + 1) (setAt b l[i] true) (by omega) (by omega) (setAt_bytes hy _ h.1 _) (by rw [setAt_length]; exact hlen)
theorem fb_of (l : List Int) (n : Int) (hn : 1 ≤ n ∧ n ≤ 10) (hl : l.length ≤ 1048576) (ha : ∀ x ∈ l, 0 ≤ x ∧ x < n) : Ev (fun k => impl_BitsOf.f k l n) (fb_fold (fb_new n) l, true) := by
  unfold impl_BitsOf.f
  refine ev_bind0 (impl_signers1 n) (ev_pos (by simpa using hn) (ev_bind0 (fb_impl_new n hn) ?_))
  exact fb_of_l0 l n hn hl ha _ 0 (fb_new n) rfl (by omega) (fb_new_bytes n) (bitsOk_iff.1 (fb_new_ok n hn)).1.2
theorem fb_fold_length (l : List Int) : ∀ b : List Int, (fb_fold b l).length = b.length := by
  induction l with
  | nil => exact fun b => rfl
  | cons x l ih => exact fun b => (ih (setAt b x true)).trans (setAt_length b x true)
theorem fb_fold_bytes (l : List Int) (h : ∀ x ∈ l, 0 ≤ x) : ∀ b : List Int, Bytes b → Bytes (fb_fold b l) := by
  induction l with
  | nil => exact fun b hb => hb
  | cons x l ih => exact fun b hb => ih (fun y hy => h y (List.mem_cons_of_mem _ hy)) _ (setAt_bytes hb x (h x List.mem_cons_self) true)
theorem fb_fold_bit (l : List Int) : ∀ (b : List Int), Bytes b → (∀ x ∈ l, 0 ≤ x ∧ x < 8 * (b.length : Int)) → ∀ j, bitOf (fb_fold b l) j = (bitOf b j || decide (j ∈ l)) := by
  induction l with
  | nil => intro b hb h j; simp [fb_fold]
  | cons x l ih =>
    intro b hb h j
    have hx := h x List.mem_cons_self
    have := ih (setAt b x true) (setAt_bytes hb x hx.1 true) (fun y hy => by rw [setAt_length]; exact h y (List.mem_cons_of_mem _ hy)) j
    unfold fb_fold at this ⊢
    rw [List.foldl_cons, this, bitOf_setAt hb x j true hx.1 hx.2]
    by_cases e : j = x
    · simp [e]
    · simp [e]
theorem fb_val_all : ∀ x : Fin 256, (x.val : Int) = (x.val : Int) / 2 ^ 0 % 2 + 2 * ((x.val : Int) / 2 ^ 1 % 2) + 4 * ((x.val : Int) / 2 ^ 2 % 2) + 8 * ((x.val : Int) / 2 ^ 3 % 2) + 16 * ((x.val : Int) / 2 ^ 4 % 2) + 32 * ((x.val : Int) / 2 ^ 5 % 2) + 64 * ((x.val : Int) / 2 ^ 6 % 2) + 128 * ((x.val : Int) / 2 ^ 7 % 2) := by decide +kernel
theorem fb_val (x : Int) (h0 : 0 ≤ x) (h1 : x ≤ 255) : x = x / 2 ^ 0 % 2 + 2 * (x / 2 ^ 1 % 2) + 4 * (x / 2 ^ 2 % 2) + 8 * (x / 2 ^ 3 % 2) + 16 * (x / 2 ^ 4 % 2) + 32 * (x / 2 ^ 5 % 2) + 64 * (x / 2 ^ 6 % 2) + 128 * (x / 2 ^ 7 % 2) := by
  have := fb_val_all ⟨x.toNat, by omega⟩
  simp only [Int.toNat_of_nonneg h0] at this
  exact this
theorem fb_ext (a b : List Int) (ha : Bytes a) (hb : Bytes b) (hl : a.length = b.length) (h : ∀ j, bitOf a j = bitOf b j) : a = b := by
  refine List.ext_getElem hl fun m h1 h2 => ?_
  have e : ∀ j, j < 8 → a[m] / 2 ^ j % 2 = b[m] / 2 ^ j % 2 := fun j hj => by rw [← bit_num a m j h1 hj, ← bit_num b m j h2 hj, h]
  have va := ha a[m] (List.getElem_mem h1)
  have vb := hb b[m] (List.getElem_mem h2)
  rw [fb_val a[m] va.1 va.2, fb_val b[m] vb.1 vb.2, e 0 (by omega), e 1 (by omega), e 2 (by omega), e 3 (by omega), e 4 (by omega), e 5 (by omega), e 6 (by omega), e 7 (by omega)]
theorem fb_back (a : List Int) (n : Int) (hb : Bytes a) (ho : bitsOk a n = true) : fb_fold (fb_new n) (bitList a) = a := by
  have hk := bitsOk_iff.1 ho
  have hn := hk.1.1
  have h2 := (bitsOk_iff.1 (fb_new_ok n hn)).1.2
  have hin : ∀ x ∈ bitList a, 0 ≤ x ∧ x < 8 * ((fb_new n).length : Int) := fun x hx => by
    have h3 := bitOf_range (mem_bitList.1 hx)
    omega
  refine fb_ext _ _ (fb_fold_bytes _ (fun x hx => (hin x hx).1) _ (fb_new_bytes n)) hb (by rw [fb_fold_length]; omega) fun j => ?_
  rw [fb_fold_bit _ _ (fb_new_bytes n) hin]
  unfold fb_new
  rw [fb_bit_zeros, Bool.false_or, Bool.eq_iff_iff]
  simp only [decide_eq_true_eq]
  exact mem_bitList
/-! Both bytes at once. -/
theorem fb_nat (x y : Nat) (hx : x < 256) (hy : y < 256) : Go.bits .and .u8 (x : Int) (y : Int) = ((x &&& y : Nat) : Int) ∧ Go.bits .or .u8 (x : Int) (y : Int) = ((x ||| y : Nat) : Int) :=
  bits_nat .u8 8 (by decide) wraps_u8 x y hx hy
theorem fb_bitsum (x y j : Nat) : (((x &&& y : Nat) : Int) / 2 ^ j % 2) + (((x ||| y : Nat) : Int) / 2 ^ j % 2) = (x : Int) / 2 ^ j % 2 + (y : Int) / 2 ^ j % 2 := by
  have e : (x &&& y) / 2 ^ j % 2 + (x ||| y) / 2 ^ j % 2 = x / 2 ^ j % 2 + y / 2 ^ j % 2 := by
    rw [← Nat.toNat_testBit, ← Nat.toNat_testBit, ← Nat.toNat_testBit, ← Nat.toNat_testBit, Nat.testBit_and, Nat.testBit_or]
    cases x.testBit j <;> cases y.testBit j <;> rfl
  exact_mod_cast e
theorem fb_both (x y : Int) (x0 : 0 ≤ x) (x1 : x ≤ 255) (y0 : 0 ≤ y) (y1 : y ≤ 255) : ((0 ≤ Go.bits .and .u8 x y ∧ Go.bits .and .u8 x y ≤ 255) ∧ (0 ≤ Go.bits .or .u8 x y ∧ Go.bits .or .u8 x y ≤ 255)) ∧ (Go.bits .and .u8 (Go.bits .and .u8 x y) x = Go.bits .and .u8 x y ∧ Go.bits .and .u8 x (Go.bits .or .u8 x y) = x) ∧ pop (Go.bits .and .u8 x y) + pop (Go.bits .or .u8 x y) = pop x + pop y := by
  obtain ⟨a, rfl⟩ := Int.eq_ofNat_of_zero_le x0
  obtain ⟨b, rfl⟩ := Int.eq_ofNat_of_zero_le y0
  have ha : a < 256 := by omega
  have hb : b < 256 := by omega
  have h1 : a &&& b < 256 := Nat.and_lt_two_pow (n := 8) _ hb
  have h2 : a ||| b < 256 := Nat.or_lt_two_pow (n := 8) ha hb
  obtain ⟨e1, e2⟩ := fb_nat a b ha hb
  rw [e1, e2, (fb_nat _ a h1 ha).1, (fb_nat a _ ha h2).1]
  have e3 : (a &&& b) &&& a = a &&& b := by
    apply Nat.eq_of_testBit_eq
    intro i
    rw [Nat.testBit_and, Nat.testBit_and]
    cases a.testBit i <;> cases b.testBit i <;> rfl
  have e4 : a &&& (a ||| b) = a := by
    apply Nat.eq_of_testBit_eq
    intro i
    rw [Nat.testBit_and, Nat.testBit_or]
    cases a.testBit i <;> cases b.testBit i <;> rfl
  refine ⟨⟨⟨by omega, by omega⟩, ⟨by omega, by omega⟩⟩, ⟨by rw [e3], by rw [e4]⟩, ?_⟩
  have s := fb_bitsum a b
  unfold pop
  have s0 := s 0
  have s1 := s 1
  have s2 := s 2
  have s3 := s 3
  have s4 := s 4
  have s5 := s 5
  have s6 := s 6
  have s7 := s 7
  generalize ((a &&& b : Nat) : Int) = p at *
  generalize ((a ||| b : Nat) : Int) = q at *
  generalize p / 2 ^ 0 % 2 = p0 at *
  generalize p / 2 ^ 1 % 2 = p1 at *
  generalize p / 2 ^ 2 % 2 = p2 at *
  generalize p / 2 ^ 3 % 2 = p3 at *
  generalize p / 2 ^ 4 % 2 = p4 at *
  generalize p / 2 ^ 5 % 2 = p5 at *
  generalize p / 2 ^ 6 % 2 = p6 at *
  generalize p / 2 ^ 7 % 2 = p7 at *
  generalize q / 2 ^ 0 % 2 = q0 at *
  generalize q / 2 ^ 1 % 2 = q1 at *
  generalize q / 2 ^ 2 % 2 = q2 at *
  generalize q / 2 ^ 3 % 2 = q3 at *
  generalize q / 2 ^ 4 % 2 = q4 at *
  generalize q / 2 ^ 5 % 2 = q5 at *
  generalize q / 2 ^ 6 % 2 = q6 at *
  generalize q / 2 ^ 7 % 2 = q7 at *
  generalize (a : Int) / 2 ^ 0 % 2 = a0 at *
  generalize (a : Int) / 2 ^ 1 % 2 = a1 at *
  generalize (a : Int) / 2 ^ 2 % 2 = a2 at *
  generalize (a : Int) / 2 ^ 3 % 2 = a3 at *
  generalize (a : Int) / 2 ^ 4 % 2 = a4 at *
  generalize (a : Int) / 2 ^ 5 % 2 = a5 at *
  generalize (a : Int) / 2 ^ 6 % 2 = a6 at *
  generalize (a : Int) / 2 ^ 7 % 2 = a7 at *
  clear s e1 e2 e3 e4 h1 h2
  omega
theorem fb_zip (a : List Int) : ∀ b : List Int, Bytes a → Bytes b → a.length = b.length → Bytes (andI a b) ∧ Bytes (orI a b) ∧ andI (andI a b) a = andI a b ∧ andI a (orI a b) = a ∧ ((andI a b).map pop).sum + ((orI a b).map pop).sum = (a.map pop).sum + (b.map pop).sum := by
  induction a with
  | nil =>
    intro b _ _ hl
    have : b = [] := List.length_eq_zero_iff.1 hl.symm
    subst this
    exact ⟨Bytes.nil, Bytes.nil, rfl, rfl, rfl⟩
  | cons x a ih =>
    intro b ha hb hl
    cases b with
    | nil => cases hl
    | cons y b =>
      have hx := ha x List.mem_cons_self
      have hy := hb y List.mem_cons_self
      obtain ⟨⟨p1, p2⟩, ⟨p3, p4⟩, p5⟩ := fb_both x y hx.1 hx.2 hy.1 hy.2
      obtain ⟨q1, q2, q3, q4, q5⟩ := ih b (fun z hz => ha z (List.mem_cons_of_mem _ hz)) (fun z hz => hb z (List.mem_cons_of_mem _ hz)) (by simpa using hl)
      unfold andI orI at *
      simp only [List.zipWith_cons_cons, List.map_cons, List.sum_cons]
      refine ⟨Bytes.cons p1.1 p1.2 q1, Bytes.cons p2.1 p2.2 q2, by rw [p3, q3], by rw [p4, q4], by omega⟩
theorem fb_sum (l : List Int) : ∀ m, m ≤ l.length → ((bitsTo l (8 * m)).length : Int) = ((l.take m).map pop).sum := by
  intro m
  induction m with
  | zero => intro _; simp [bitsTo]
  | succ m ih =>
    intro h
    have hm : m < l.length := by omega
    rw [bitsTo_byte l m hm, ih (by omega), List.take_succ_eq_append_getElem hm, List.map_append, List.sum_append]
    simp
theorem fb_count (l : List Int) : ((bitList l).length : Int) = (l.map pop).sum := by
  have := fb_sum l l.length (Nat.le_refl _)
  rw [List.take_of_length_le (Nat.le_refl _)] at this
  exact this
theorem fb_off_all : ∀ (x : Fin 256) (j : Fin 8), Go.bits .and .u8 (setBit (setBit (x.val : Int) j.val true) j.val false) (x.val : Int) = setBit (setBit (x.val : Int) j.val true) j.val false := by decide +kernel
theorem fb_and_self_all : ∀ x : Fin 256, Go.bits .and .u8 (x.val : Int) (x.val : Int) = (x.val : Int) := by decide +kernel
theorem fb_off (a : List Int) (i : Int) (hb : Bytes a) (h0 : 0 ≤ i) (h1 : i < 8 * (a.length : Int)) : andI (setAt (setAt a i true) i false) a = setAt (setAt a i true) i false := by
  have hi : (i / 8).toNat < a.length := by omega
  have hv := hb.val (i / 8)
  have hr : rd (a.set (i / 8).toNat (setBit (rd a (i / 8)) (i % 8).toNat true)) (i / 8) = setBit (rd a (i / 8)) (i % 8).toNat true := by
    rw [rd_set a _ _ _ hi (by omega), if_pos (by omega)]
  have he : setAt (setAt a i true) i false = a.set (i / 8).toNat (setBit (setBit (rd a (i / 8)) (i % 8).toNat true) (i % 8).toNat false) := by
    unfold setAt
    rw [hr, List.set_set]
  rw [he]
  unfold andI
  refine List.ext_getElem (by simp) fun m h2 h3 => ?_
  rw [List.getElem_zipWith, List.getElem_set]
  have hm : m < a.length := by simpa using h3
  by_cases e : (i / 8).toNat = m
  · rw [if_pos e]
    have hrd : a[m] = rd a (i / 8) := by
      have := rd_at hm
      rw [← this]
      congr 1
      omega
    rw [hrd]
    have := fb_off_all ⟨(rd a (i / 8)).toNat, by omega⟩ ⟨(i % 8).toNat, by omega⟩
    simp only [Int.toNat_of_nonneg hv.1] at this
    exact this
  · rw [if_neg e]
    have hx := hb a[m] (List.getElem_mem hm)
    have := fb_and_self_all ⟨a[m].toNat, by omega⟩
    simp only [Int.toNat_of_nonneg hx.1] at this
    exact this
theorem fb_same (a : List Int) : impl_SameBytes.f a a = some true := by
  unfold impl_SameBytes.f
  rw [beq_self_eq_true]
theorem fb_in (a b : List Int) (hl : a.length ≤ 1048576) (hab : a.length = b.length) (h : andI a b = a) : Ev (fun k => impl_BitsIn.f k a b) true := by
  unfold impl_BitsIn.f
  have e := impl_bitsAnd a b hl
  have e2 : bitsAndI a b = a := by
    unfold bitsAndI
    rw [if_pos hab, h]
  rw [e2] at e
  exact ev_pos (by omega) (Ev.bind e (ev_bind0 (fb_same a) (Ev.now _)))
theorem fb_get (a : List Int) (n : Int) (hb : Bytes a) (ho : bitsOk a n = true) : Ev (fun k => impl_GetBits.f k (a ++ [1]) 0 n) (a, (n - 1) / 8 + 1, 0) := by
  have hk := bitsOk_iff.1 ho
  have hn := hk.1.1
  have hs := hk.1.2
  have hlen : ((a ++ [1]).length : Int) = (n - 1) / 8 + 1 + 1 := by rw [List.length_append]; simp; omega
  have hr : impl_GetRaw.f (a ++ [1]) 0 ((n - 1) / 8 + 1) = some (a, (n - 1) / 8 + 1, 0) := by
    have hc : impl_copyBytes.f a = some a := by
      unfold impl_copyBytes.f
      simp only [Option.bind_some, List.nil_append, List.length_nil, Nat.zero_add]
      rw [if_pos (by omega)]
    unfold impl_GetRaw.f impl_within.f
    rw [hlen, if_pos (by omega), bind_at, if_pos (by simp; omega), if_pos (by omega), bind_at, wrap_in (n := (n - 1) / 8 + 1 + 1 - 0) (by omega) (by omega), if_pos (by simp only [decide_eq_true_eq]; omega), wrap_in (n := 0 + ((n - 1) / 8 + 1)) (by omega) (by omega), if_pos (by omega), if_pos (by omega), if_pos (by omega)]
    have ht : ((a ++ [1]).take (0 + ((n - 1) / 8 + 1)).toNat).drop (0 : Int).toNat = a := by
      rw [show (0 + ((n - 1) / 8 + 1)).toNat = a.length by omega, List.take_left]
      rfl
    rw [ht, hc, bind_at, Int.zero_add]
  unfold impl_GetBits.f
  refine ev_bind0 (impl_signers1 n) (ev_pos (by simpa using hn) (ev_bind0 (impl_bitsSize1 n hn.1 hn.2) (ev_bind0 hr (ev_pos rfl ?_))))
  have e := impl_bitsOk a n hb (by omega)
  rw [ho] at e
  exact Ev.bind e (ev_pos rfl (Ev.now _))
theorem fb_j0 (l a : List Int) (n : Int) (hl : l.length ≤ 1048576) (hb : Bytes a) (ho : bitsOk a n = true) : Ev (fun k => laws_FnBits.j0 k l n a false) true := by
  have hk := bitsOk_iff.1 ho
  have hn := hk.1.1
  have hs := hk.1.2
  obtain ⟨i, ei, i0, i1'⟩ := makeNum_some l n hl
  have i1 := i1' (by omega)
  have o1 := setAt_ok hb ho i true i0 i1
  have b1 := setAt_bytes hb i i0 true
  have l1 := setAt_length a i true
  have b2 := setAt_bytes b1 i i0 false
  have l2 := setAt_length (setAt a i true) i false
  have s1 := impl_bitsSet a n i true hb (by omega)
  have s2 := impl_bitsSet (setAt a i true) n i false b1 (by omega)
  have e1 : bitsSet a n i true = (setAt a i true, true) := by unfold bitsSet; rw [if_pos ⟨ho, i0, i1⟩]
  have e2 : bitsSet (setAt a i true) n i false = (setAt (setAt a i true) i false, true) := by unfold bitsSet; rw [if_pos ⟨o1, i0, i1⟩]
  rw [e1] at s1
  rw [e2] at s2
  have h1 : impl_BitsHas.f (setAt a i true) i = some true := by
    rw [impl_has _ i b1 (by omega) (by omega), bitOf_setAt hb i i true i0 (by omega), if_pos rfl]
  have h2 : impl_BitsHas.f (setAt (setAt a i true) i false) i = some false := by
    rw [impl_has _ i b2 (by omega) (by omega), bitOf_setAt b1 i i false i0 (by omega), if_pos rfl]
  have c := impl_bitsCount (fb_new n) (fb_new_bytes n) (by have := fb_new_length n hn; omega)
  rw [fb_new_bits] at c
  refine Ev.step (f := fun k => (spec_MakeNum.f k l n).bind fun t268 => ((impl_BitsSet.f k a n t268 true).bind fun bt269 => ((impl_BitsSet.f k bt269.1 n t268 false).bind fun bt273 => ((some (([] : List Int) : List Int)).bind fun y277 => (if y277.length + a.length < 140737488355328 then ((some (y277 ++ a : List Int)).bind fun y280 => (if y280.length < 140737488355328 then ((impl_GetBits.f k (y280 ++ [1]) 0 n).bind fun bt286 => (if bt269.2 = true then (if bt273.2 = true then ((impl_BitsHas.f bt269.1 t268).bind fun t291 => (if t291 = true then ((impl_BitsHas.f bt273.1 t268).bind fun t292 => (if t292 = true then (some false) else ((impl_BitsIn.f k bt273.1 a).bind fun t293 => (if t293 = true then (if bt286.2.2 = 0 then ((impl_BitsSize.f n).bind fun t294 => (if bt286.2.1 = t294 then ((impl_SameBytes.f bt286.1 a).bind fun t295 => (if t295 = true then ((impl_BitsNew.f n).bind fun t296 => ((impl_BitsCount.f k t296).bind fun t299 => (some (t299 == 0)))) else (some false))) else (some false))) else (some false)) else (some false))))) else (some false))) else (some false)) else (some false))) else (none))) else (none)))))) (fun _ => by simp only [laws_FnBits.j0, Bool.false_eq_true, if_false]) ?_
  refine Ev.bind ei (Ev.bind s1 (Ev.bind s2 (ev_bind0 rfl (ev_pos (by simp; omega) (ev_bind0 rfl (ev_pos (by simp; omega) ?_))))))
  rw [List.nil_append]
  refine Ev.bind (fb_get a n hb ho) (ev_pos rfl (ev_pos rfl (ev_bind0 h1 (ev_pos rfl (ev_bind0 h2 (ev_neg (by decide) ?_))))))
  refine Ev.bind (fb_in (setAt (setAt a i true) i false) a (by omega) (by omega) (fb_off a i hb i0 (by omega))) (ev_pos rfl (ev_pos rfl (ev_bind0 (impl_bitsSize1 n hn.1 hn.2) (ev_pos rfl (ev_bind0 (fb_same a) (ev_pos rfl (ev_bind0 (fb_impl_new n hn) (Ev.bind c (Ev.now _)))))))))
theorem FnBits : laws_FnBits.Pure := by
  intro l _ _ _
  by_cases g : (l.length : Int) > 1048576
  · exact ⟨0, by simp only [laws_FnBits.f, if_pos g]⟩
  have hl : l.length ≤ 1048576 := by omega
  have main : Ev (fun k => laws_FnBits.f k l) true := by
    unfold laws_FnBits.f
    refine ev_neg g ?_
    obtain ⟨i, ei, i0, i1'⟩ := makeNum_some l 10 hl
    have i1 := i1' (by omega)
    refine Ev.bind ei ?_
    rw [wrap_in (n := 1 + i) (by omega) (by omega)]
    generalize hnn : 1 + i = n
    have hn : 1 ≤ n ∧ n ≤ 10 := by omega
    obtain ⟨a, ea, oa, ba⟩ := fb_make l n 1 hn hl
    obtain ⟨b, eb, ob, bb⟩ := fb_make l n 2 hn hl
    have la := (bitsOk_iff.1 oa).1.2
    have lb := (bitsOk_iff.1 ob).1.2
    have hlen := bitList_length a
    have hin : ∀ x ∈ bitList a, 0 ≤ x ∧ x < n := fun x hx => ⟨(bitOf_range (mem_bitList.1 hx)).1, (bitsOk_iff.1 oa).2 x (mem_bitList.1 hx)⟩
    have eo := fb_of (bitList a) n hn (by omega) hin
    rw [fb_back a n ba oa] at eo
    have hab : a.length = b.length := by omega
    obtain ⟨z1, z2, z3, z4, z5⟩ := fb_zip a b ba bb hab
    have x1 : (andI a b).length = a.length := by unfold andI; rw [List.length_zipWith]; omega
    have x2 : (orI a b).length = a.length := by unfold orI; rw [List.length_zipWith]; omega
    have eand := impl_bitsAnd a b (by omega)
    have eor := impl_bitsOr a b (by omega)
    have y1 : bitsAndI a b = andI a b := by unfold bitsAndI; rw [if_pos hab]
    have y2 : bitsOrI a b = orI a b := by unfold bitsOrI; rw [if_pos hab]
    rw [y1] at eand
    rw [y2] at eor
    have ok := impl_bitsOk a n ba (by omega)
    rw [oa] at ok
    have k1 := bitList_length (andI a b)
    have k2 := bitList_length (orI a b)
    have k4 := bitList_length b
    refine Ev.bind ea (Ev.bind eb (Ev.bind (impl_bitsList a ba (by omega)) (Ev.bind eo (Ev.bind eand (Ev.bind eor (ev_pos rfl (ev_bind0 (fb_same a) (ev_pos rfl (Ev.bind ok (ev_pos rfl ?_))))))))))
    refine Ev.bind (impl_bitsCount _ z1 (by omega)) (Ev.bind (impl_bitsCount _ z2 (by omega)) (Ev.bind (impl_bitsCount a ba (by omega)) (Ev.bind (impl_bitsCount b bb (by omega)) (ev_pos ?_ ?_))))
    · rw [fb_count, fb_count, fb_count, fb_count, z5]
    · exact Ev.bind (fb_in _ a (by omega) (by omega) z3) (ev_pos rfl (Ev.bind (fb_in a _ (by omega) (by omega) z4) (fb_j0 l a n hl ba oa)))
  obtain ⟨K, h⟩ := main
  exact ⟨K, h K (Nat.le_refl _)⟩

end Go.Proofs.Ytdhbfpfonnelgaa.Pure
