/- The program's function answers what the reference's answers, for all arguments: the printed law comes to true. Conditions: those of the printed statement alone. -/
import Derived.Test.YtmjbfnolfkfnjaaPFnExactCrcJoinx1
import Derived.Test.YtmjbfnolfkfnjaaLib
import Derived.Test.YtmjbfnolfkfnjaaLibCrc
set_option linter.unusedVariables false
set_option linter.unusedSimpArgs false
set_option maxRecDepth 4000
namespace Go.Proofs.Ytmjbfnolfkfnjaa.Pure
open Go.RowKit Go.Proofs.Ytmjbfnolfkfnjaa.PFnExactCrcJoin Go.Proofs.YtmjbfnolfkfnjaaW.PrintWords Go.Proofs.YtmjbfnolfkfnjaaW.PrintLast Go.Proofs.YtmjbfnolfkfnjaaW.PrintMore Go.Proofs.Ytmjbfnolfkfnjaa.Lib

/-! ### spec_l03Turn -/
theorem turn_eq (c : Nat) (h : c < 4294967296) : spec_l03Turn.f (c : Int) = some (turnN c : Int) := by
  unfold spec_l03Turn.f turnN
  rw [Int.tmod_eq_emod_of_nonneg (by omega), Int.tdiv_eq_ediv_of_nonneg (by omega), wrap_in (by omega) (by omega)]
  by_cases e : c % 2 = 1
  · rw [if_pos (by omega), if_pos e]
    have := xor_nat (c / 2) 3988292384 (by omega) (by omega)
    rw [← this]
    rfl
  · rw [if_neg (by omega), if_neg e]
    rfl

/-! ### spec_CrcShift -/
theorem spec_crcShift_l0 (n : Nat) (hn : n ≤ 8192) : ∀ (d i c : Nat), 8 * n - i = d → i ≤ 8 * n → c < 4294967296 → Ev (fun k => spec_CrcShift.l0 k (c : Int) (n : Int) (i : Int)) (turns d c : Int) := by
  intro d
  induction d with
  | zero =>
    intro i c hd hi hc
    exact Ev.step (fun _ => rfl) (ev_neg (by rw [wrap_in (by omega) (by omega)]; omega) (ev_some rfl))
  | succ d ih =>
    intro i c hd hi hc
    refine Ev.step (fun _ => rfl) (ev_pos (by rw [wrap_in (by omega) (by omega)]; omega) (ev_bind0 (turn_eq c hc) ?_))
    rw [wrap_succ (by omega)]
    exact ih (i + 1) (turnN c) (by omega) (by omega) (turnN_lt hc)
def crcShift (c n : Int) : Int := if (0 ≤ c ∧ c ≤ 4294967295) ∧ 0 ≤ n ∧ n ≤ 8192 then (turns (8 * n.toNat) c.toNat : Int) else 0
theorem spec_crcShift (c n : Int) : Ev (fun k => spec_CrcShift.f k c n) (crcShift c n) := by
  unfold spec_CrcShift.f crcShift spec_l03Sum.f spec_l01In.f
  have no : Ev (fun k => spec_CrcShift.j0 k c n true) 0 := Ev.step (f := fun _ => some 0) (fun _ => by simp only [spec_CrcShift.j0, if_true]) (Ev.now _)
  by_cases h0 : 0 ≤ c
  · by_cases h1 : c ≤ 4294967295
    · by_cases h2 : 0 ≤ n
      · by_cases h3 : n ≤ 8192
        · obtain ⟨m, rfl⟩ := Int.eq_ofNat_of_zero_le h0
          obtain ⟨j, rfl⟩ := Int.eq_ofNat_of_zero_le h2
          have yes : Ev (fun k => spec_CrcShift.j0 k (m : Int) (j : Int) false) (turns (8 * j) m : Int) :=
            Ev.step (f := fun k => spec_CrcShift.l0 k (m : Int) (j : Int) 0) (fun _ => by simp only [spec_CrcShift.j0, Bool.false_eq_true, if_false]) (spec_crcShift_l0 j (by omega) (8 * j) 0 m (by omega) (by omega) (by omega))
          simpa [h0, h1, h2, h3] using yes
        · simpa [h0, h1, h2, h3] using no
      · simpa [h0, h1, h2] using no
    · simpa [h0, h1] using no
  · simpa [h0] using no

/-! ### impl_steps -/
theorem steps_l0 : ∀ (d i c : Nat), 8 - i = d → i ≤ 8 → c < 4294967296 → Ev (fun k => impl_steps.l0 k (c : Int) (i : Int)) (turns d c : Int) := by
  intro d
  induction d with
  | zero =>
    intro i c hd hi hc
    exact Ev.step (fun _ => rfl) (ev_neg (by omega) (ev_some rfl))
  | succ d ih =>
    intro i c hd hi hc
    refine Ev.step (fun _ => rfl) (ev_pos (by omega) ?_)
    have := ih (i + 1) (turnN c) (by omega) (by omega) (turnN_lt hc)
    rw [and_one c (by omega), wrap_succ (by omega)]
    by_cases e : c % 2 = 1
    · refine ev_pos (by omega) ?_
      have hx := xor_nat (c / 2) 3988292384 (by omega) (by omega)
      rw [show (c : Int) / 2 = ((c / 2 : Nat) : Int) by omega]
      rw [show Go.bits .xor .i64 ((c / 2 : Nat) : Int) 3988292384 = ((c / 2 ^^^ 3988292384 : Nat) : Int) from hx]
      rw [show turnN c = c / 2 ^^^ 3988292384 by unfold turnN; rw [if_pos e]] at this
      simpa only [turns, turnN, if_pos e] using this
    · refine ev_neg (by omega) ?_
      rw [show (c : Int) / 2 = ((c / 2 : Nat) : Int) by omega]
      rw [show turnN c = c / 2 by unfold turnN; rw [if_neg e]] at this
      simpa only [turns, turnN, if_neg e] using this
theorem steps_ev (c : Nat) (h : c < 4294967296) : Ev (fun k => impl_steps.f k (c : Int)) (turns 8 c : Int) := steps_l0 8 0 c rfl (by omega) h

/-! ### impl_CrcShift -/
theorem impl_crcShift_l0 (n : Nat) (hn : n ≤ 8192) : ∀ (d i c : Nat), n - i = d → i ≤ n → c < 4294967296 → Ev (fun k => impl_CrcShift.l0 k (c : Int) (n : Int) (i : Int)) (turns (8 * d) c : Int) := by
  intro d
  induction d with
  | zero =>
    intro i c hd hi hc
    exact Ev.step (fun _ => rfl) (ev_neg (by omega) (ev_some rfl))
  | succ d ih =>
    intro i c hd hi hc
    refine Ev.step (fun _ => rfl) (ev_pos (by omega) (Ev.bind (steps_ev c hc) ?_))
    rw [wrap_succ (by omega), show 8 * (d + 1) = 8 + 8 * d by omega, turns_add]
    exact ih (i + 1) (turns 8 c) (by omega) (by omega) (turns_lt 8 hc)
def crcShiftI (c n : Int) : Int := if (0 ≤ c ∧ c ≤ 4294967295) ∧ 0 ≤ n ∧ n ≤ 8192 then (turns (8 * n.toNat) c.toNat : Int) else 0
theorem impl_crcShift (c n : Int) : Ev (fun k => impl_CrcShift.f k c n) (crcShiftI c n) := by
  unfold impl_CrcShift.f crcShiftI impl_isWord.f impl_within.f
  have no : Ev (fun k => impl_CrcShift.j0 k c n true) 0 := Ev.step (f := fun _ => some 0) (fun _ => by simp only [impl_CrcShift.j0, if_true]) (Ev.now _)
  by_cases h0 : 0 ≤ c
  · by_cases h1 : c ≤ 4294967295
    · by_cases h2 : 0 ≤ n
      · by_cases h3 : n ≤ 8192
        · obtain ⟨m, rfl⟩ := Int.eq_ofNat_of_zero_le h0
          obtain ⟨j, rfl⟩ := Int.eq_ofNat_of_zero_le h2
          have yes : Ev (fun k => impl_CrcShift.j0 k (m : Int) (j : Int) false) (turns (8 * j) m : Int) :=
            Ev.step (f := fun k => impl_CrcShift.l0 k (m : Int) (j : Int) 0) (fun _ => by simp only [impl_CrcShift.j0, Bool.false_eq_true, if_false]) (impl_crcShift_l0 j (by omega) j 0 m (by omega) (by omega) (by omega))
          simpa [h0, h1, h2, h3] using yes
        · simpa [h0, h1, h2, h3] using no
      · simpa [h0, h1, h2] using no
    · simpa [h0, h1] using no
  · simpa [h0] using no

theorem FnExactCrcJoin : laws_FnExactCrcJoin.Pure := by
  intro a b n _ _ _
  obtain ⟨K3, e3⟩ := spec_crcShift a n
  obtain ⟨K4, e4⟩ := impl_crcShift a n
  refine ⟨K3 + K4, ?_⟩
  simp (disch := omega) only [laws_FnExactCrcJoin.f, spec_CrcJoin.f, impl_CrcJoin.f, spec_l03Sum.f, spec_l01In.f, impl_isWord.f, impl_within.f, e3, e4, crcShift, crcShiftI, Option.bind_some, ge_iff_le]
  by_cases h0 : 0 ≤ a <;> by_cases h1 : a ≤ 4294967295 <;> by_cases h2 : 0 ≤ b <;> by_cases h3 : b ≤ 4294967295 <;> by_cases h4 : 0 ≤ n <;> by_cases h5 : n ≤ 8192 <;> simp [h0, h1, h2, h3, h4, h5]

end Go.Proofs.Ytmjbfnolfkfnjaa.Pure
