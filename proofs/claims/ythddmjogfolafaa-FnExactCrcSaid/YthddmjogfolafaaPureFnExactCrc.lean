/- The program's function answers what the reference's answers, for all arguments: the printed law comes to true. Conditions: those of the printed statement alone. -/
import Derived.Test.YthddmjogfolafaaPFnExactCrcx2
import Derived.Test.YthddmjogfolafaaLib
import Derived.Test.YthddmjogfolafaaLibCrc
set_option linter.unusedVariables false
set_option linter.unusedSimpArgs false
set_option maxRecDepth 4000
namespace Go.Proofs.Ythddmjogfolafaa.Pure
open Go.RowKit Go.Proofs.Ythddmjogfolafaa.PFnExactCrc Go.Proofs.YthddmjogfolafaaW.PrintWords Go.Proofs.YthddmjogfolafaaW.PrintLast Go.Proofs.YthddmjogfolafaaW.PrintMore Go.Proofs.Ythddmjogfolafaa.Lib

/-! ### spec_l03Turn -/
theorem turn_eq (c : Nat) (h : c < 4294967296) : spec_l03Turn.f (c : Int) = some (turnN c : Int) := by
  unfold spec_l03Turn.f turnN
  rw [Int.tmod_eq_emod_of_nonneg (by omega), Int.tdiv_eq_ediv_of_nonneg (by omega), wrap_in (by omega) (by omega)]
  by_cases e : c % 2 = 1
  · rw [if_pos (by omega), if_pos e]
    have := xor_nat (c / 2) 3988292384 (by omega) (by omega)
    rw [← this]
    rfl
  · rw [if_neg (by omega), if_neg e]
    rfl

/-! ### spec_CrcMore -/
theorem spec_crcMore_l1 (l : List Int) (n : Int) (j : Int) (r : Int) : ∀ (d i c : Nat), 8 - i = d → i ≤ 8 → c < 4294967296 → Ev (fun k => spec_CrcMore.l0 k (turns d c : Int) l n (wrap64 (j + 1))) r → Ev (fun k => spec_CrcMore.l1 k (c : Int) (i : Int) l n j) r := by
  intro d
  induction d with
  | zero =>
    intro i c hd hi hc h
    exact Ev.step (fun _ => rfl) (ev_neg (by omega) h)
  | succ d ih =>
    intro i c hd hi hc h
    refine Ev.step (fun _ => rfl) (ev_pos (by omega) (ev_bind0 (turn_eq c hc) ?_))
    rw [wrap_succ (by omega)]
    exact ih (i + 1) (turnN c) (by omega) (by omega) (turnN_lt hc) h
theorem spec_crcMore_l0 (l : List Int) (hb : Bytes l) (hl : l.length ≤ 4194304) : ∀ (d i c : Nat), l.length - i = d → i ≤ l.length → c < 4294967296 → Ev (fun k => spec_CrcMore.l0 k (c : Int) l (l.length : Int) (i : Int)) ((crcFold c (l.drop i) ^^^ 4294967295 : Nat) : Int) := by
  intro d
  induction d with
  | zero =>
    intro i c hd hi hc
    refine Ev.step (fun _ => rfl) (ev_neg (by omega) (ev_some ?_))
    rw [List.drop_of_length_le (by omega)]
    exact xor_nat c 4294967295 (by omega) (by omega)
  | succ d ih =>
    intro i c hd hi hc
    have hi' : i < l.length := by omega
    have hv := hb l[i] (List.getElem_mem hi')
    obtain ⟨x, hx⟩ := Int.eq_ofNat_of_zero_le hv.1
    refine Ev.step (fun _ => rfl) (ev_pos (by omega) (ev_pos (by omega) (ev_pos (by omega) ?_)))
    rw [rd_at hi', wrap_in (by omega) (by omega), hx, xor_nat c x (by omega) (by omega)]
    have hlt : c ^^^ x < 4294967296 := Nat.xor_lt_two_pow (n := 32) hc (by omega)
    refine spec_crcMore_l1 l _ _ _ 8 0 (c ^^^ x) rfl (by omega) hlt ?_
    rw [wrap_succ (by omega), List.drop_eq_getElem_cons hi']
    have := ih (i + 1) (turns 8 (c ^^^ x)) (by omega) (by omega) (turns_lt 8 hlt)
    simpa [crcFold, hx] using this
def crcMore (c : Int) (l : List Int) : Int := if 0 ≤ c ∧ c ≤ 4294967295 then (crcMoreN c.toNat l : Int) else 0
theorem spec_crcMore (c : Int) (l : List Int) (hb : Bytes l) (hl : l.length ≤ 4194304) : Ev (fun k => spec_CrcMore.f k c l) (crcMore c l) := by
  unfold spec_CrcMore.f crcMore spec_l03Sum.f spec_l01In.f
  by_cases h0 : 0 ≤ c
  · by_cases h1 : c ≤ 4294967295
    · obtain ⟨m, rfl⟩ := Int.eq_ofNat_of_zero_le h0
      have := spec_crcMore_l0 l hb hl _ 0 (m ^^^ 4294967295) rfl (by omega) (Nat.xor_lt_two_pow (n := 32) (by omega) (by omega))
      have hx := xor_nat m 4294967295 (by omega) (by omega)
      rw [show ((4294967295 : Nat) : Int) = 4294967295 from rfl] at hx
      simpa [h1, hx, crcMoreN] using this
    · simp [h0, h1]; exact Ev.now _
  · simp [h0]; exact Ev.now _

/-! ### laws_toByteS -/
theorem toByteS_l0 (l : List Int) (hl : l.length ≤ 1048576) : ∀ (d i : Nat) (ys : List Int), l.length - i = d → i ≤ l.length → ys.length = l.length → ys.take i = l.take i → Ev (fun k => laws_toByteS.l0 k l ys (i : Int)) l := by
  intro d
  induction d with
  | zero =>
    intro i ys hd hi hy ht
    refine Ev.step (fun _ => rfl) (ev_neg (by omega) (ev_some ?_))
    rw [List.take_of_length_le (by omega), List.take_of_length_le (by omega)] at ht
    exact ht
  | succ d ih =>
    intro i ys hd hi hy ht
    refine Ev.step (fun _ => rfl) (ev_pos (by omega) (ev_pos (by omega) (ev_pos (by omega) ?_)))
    rw [wrap_succ (by omega), rd_at (show i < l.length by omega), Int.toNat_natCast]
    exact ih (i + 1) _ (by omega) (by omega) (by simpa using hy) (set_take_succ ys l i (by omega) (by omega) ht)
theorem toByteS_ev (l : List Int) (hl : l.length ≤ 1048576) : Ev (fun k => laws_toByteS.f k l) l := by
  unfold laws_toByteS.f
  refine ev_pos (by omega) (ev_pos (by omega) ?_)
  rw [Int.toNat_natCast]
  exact toByteS_l0 l hl _ 0 _ rfl (by omega) (by simp) (by simp)

/-! ### impl_steps -/
theorem steps_l0 : ∀ (d i c : Nat), 8 - i = d → i ≤ 8 → c < 4294967296 → Ev (fun k => impl_steps.l0 k (c : Int) (i : Int)) (turns d c : Int) := by
  intro d
  induction d with
  | zero =>
    intro i c hd hi hc
    exact Ev.step (fun _ => rfl) (ev_neg (by omega) (ev_some rfl))
  | succ d ih =>
    intro i c hd hi hc
    refine Ev.step (fun _ => rfl) (ev_pos (by omega) ?_)
    have := ih (i + 1) (turnN c) (by omega) (by omega) (turnN_lt hc)
    rw [and_one c (by omega), wrap_succ (by omega)]
    by_cases e : c % 2 = 1
    · refine ev_pos (by omega) ?_
      have hx := xor_nat (c / 2) 3988292384 (by omega) (by omega)
      rw [show (c : Int) / 2 = ((c / 2 : Nat) : Int) by omega]
      rw [show Go.bits .xor .i64 ((c / 2 : Nat) : Int) 3988292384 = ((c / 2 ^^^ 3988292384 : Nat) : Int) from hx]
      rw [show turnN c = c / 2 ^^^ 3988292384 by unfold turnN; rw [if_pos e]] at this
      simpa only [turns, turnN, if_pos e] using this
    · refine ev_neg (by omega) ?_
      rw [show (c : Int) / 2 = ((c / 2 : Nat) : Int) by omega]
      rw [show turnN c = c / 2 by unfold turnN; rw [if_neg e]] at this
      simpa only [turns, turnN, if_neg e] using this
theorem steps_ev (c : Nat) (h : c < 4294967296) : Ev (fun k => impl_steps.f k (c : Int)) (turns 8 c : Int) := steps_l0 8 0 c rfl (by omega) h

/-! ### impl_CrcMore -/
theorem impl_crcMore_l0 (l : List Int) (hb : Bytes l) (hl : l.length ≤ 4194304) : ∀ (d i c : Nat), l.length - i = d → i ≤ l.length → c < 4294967296 → Ev (fun k => impl_CrcMore.l0 k (c : Int) l (l.length : Int) (i : Int)) ((crcFold c (l.drop i) ^^^ 4294967295 : Nat) : Int) := by
  intro d
  induction d with
  | zero =>
    intro i c hd hi hc
    refine Ev.step (fun _ => rfl) (ev_neg (by omega) (ev_some ?_))
    rw [List.drop_of_length_le (by omega)]
    exact xor_nat c 4294967295 (by omega) (by omega)
  | succ d ih =>
    intro i c hd hi hc
    have hi' : i < l.length := by omega
    have hv := hb l[i] (List.getElem_mem hi')
    obtain ⟨x, hx⟩ := Int.eq_ofNat_of_zero_le hv.1
    refine Ev.step (fun _ => rfl) (ev_pos (by omega) (ev_pos (by omega) (ev_pos (by omega) ?_)))
    rw [rd_at hi', wrap_in (by omega) (by omega), hx, xor_nat c x (by omega) (by omega)]
    have hlt : c ^^^ x < 4294967296 := Nat.xor_lt_two_pow (n := 32) hc (by omega)
    refine Ev.bind (steps_ev _ hlt) ?_
    rw [wrap_succ (by omega), List.drop_eq_getElem_cons hi']
    have := ih (i + 1) (turns 8 (c ^^^ x)) (by omega) (by omega) (turns_lt 8 hlt)
    simpa [crcFold, hx] using this
def crcMoreI (c : Int) (l : List Int) : Int := if 0 ≤ c ∧ c ≤ 4294967295 then (crcMoreN c.toNat l : Int) else 0
theorem impl_crcMore (c : Int) (l : List Int) (hb : Bytes l) (hl : l.length ≤ 4194304) : Ev (fun k => impl_CrcMore.f k c l) (crcMoreI c l) := by
  unfold impl_CrcMore.f crcMoreI impl_isWord.f impl_within.f
  by_cases h0 : 0 ≤ c
  · by_cases h1 : c ≤ 4294967295
    · obtain ⟨m, rfl⟩ := Int.eq_ofNat_of_zero_le h0
      have := impl_crcMore_l0 l hb hl _ 0 (m ^^^ 4294967295) rfl (by omega) (Nat.xor_lt_two_pow (n := 32) (by omega) (by omega))
      have hx := xor_nat m 4294967295 (by omega) (by omega)
      rw [show ((4294967295 : Nat) : Int) = 4294967295 from rfl] at hx
      simpa [h1, hx, crcMoreN] using this
    · simp [h0, h1]; exact Ev.now _
  · simp [h0]; exact Ev.now _

/-! ### laws_eqByteS -/
theorem eqByteS_l0 (a b : List Int) (hl : a.length ≤ 9000000000000000000) (hab : a.length = b.length) : ∀ (d i : Nat), a.length - i = d → i ≤ a.length → a.take i = b.take i → Ev (fun k => laws_eqByteS.l0 k a b (i : Int)) (decide (a = b)) := by
  intro d
  induction d with
  | zero =>
    intro i hd hi ht
    refine Ev.step (fun _ => rfl) (ev_neg (by omega) (ev_some ?_))
    rw [List.take_of_length_le (by omega), List.take_of_length_le (by omega)] at ht
    simp [ht]
  | succ d ih =>
    intro i hd hi ht
    refine Ev.step (fun _ => rfl) (ev_pos (by omega) (ev_pos (by omega) (ev_pos (by omega) ?_)))
    have ha : i < a.length := by omega
    have hb : i < b.length := by omega
    rw [rd_at ha, rd_at hb]
    by_cases e : a[i] = b[i]
    · refine ev_pos e ?_
      rw [wrap_succ (by omega)]
      exact ih (i + 1) (by omega) (by omega) (by rw [List.take_succ_eq_append_getElem ha, List.take_succ_eq_append_getElem hb, ht, e])
    · refine ev_neg e (ev_some ?_)
      have : a ≠ b := fun h => e (by subst h; rfl)
      simp [this]
theorem eqByteS_ev (a b : List Int) (hl : a.length ≤ 9000000000000000000) : Ev (fun k => laws_eqByteS.f k a b) (decide (a = b)) := by
  unfold laws_eqByteS.f
  by_cases h : a.length = b.length
  · refine ev_pos (by omega) ?_
    exact eqByteS_l0 a b hl h _ 0 rfl (by omega) (by simp)
  · refine ev_neg (by omega) (ev_some ?_)
    have : a ≠ b := fun e => h (by rw [e])
    simp [this]
theorem eqByteS_same (a : List Int) (hl : a.length ≤ 9000000000000000000) : Ev (fun k => laws_eqByteS.f k a a) true := ev_eq (by simp) (eqByteS_ev a a hl)

attribute [local congr] bind_lazy ite_lazy
theorem FnExactCrc : laws_FnExactCrc.Pure := by
  intro l _ _ hw
  have hb := bytes_of_wf hw
  by_cases h1 : (l.length : Int) > 1048576
  · exact ⟨0, by simp only [laws_FnExactCrc.f, if_pos h1]⟩
  obtain ⟨K1, e1⟩ := toByteS_ev l (by omega)
  obtain ⟨K2, e2⟩ := eqByteS_same l (by omega)
  obtain ⟨K3, e3⟩ := spec_crcMore 0 l hb (by omega)
  obtain ⟨K4, e4⟩ := impl_crcMore 0 l hb (by omega)
  refine ⟨K1 + K2 + K3 + K4, ?_⟩
  simp (disch := omega) only [laws_FnExactCrc.f, spec_Crc.f, impl_Crc.f, if_neg h1, e1, e2, e3, e4, crcMore, crcMoreI, Option.bind_some, if_true]

end Go.Proofs.Ythddmjogfolafaa.Pure
