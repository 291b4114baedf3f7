/- The program's function answers what the reference's answers, for all arguments: the printed law comes to true. Conditions: those of the printed statement alone. -/
import Derived.Test.YtodnajlgjcoodaaPFnExactTurnRightx1
import Derived.Test.YtodnajlgjcoodaaLib
set_option linter.unusedVariables false
set_option linter.unusedSimpArgs false
set_option maxRecDepth 4000
namespace Go.Proofs.Ytodnajlgjcoodaa.Pure
open Go.RowKit Go.Proofs.Ytodnajlgjcoodaa.PFnExactTurnRight Go.Proofs.YtodnajlgjcoodaaW.PrintWords Go.Proofs.YtodnajlgjcoodaaW.PrintLast Go.Proofs.YtodnajlgjcoodaaW.PrintMore Go.Proofs.Ytodnajlgjcoodaa.Lib

theorem FnExactTurnRight : laws_FnExactTurnRight.Pure := by
  intro a b ha hb
  have e : spec_TurnRight.f a b = impl_TurnRight.f a b := by
    simp only [spec_TurnRight.f, impl_TurnRight.f, spec_l04Word.f, spec_l01In.f, impl_isWord.f, impl_within.f, spec_l04Turn.f, ge_iff_le]
    by_cases h0 : 0 ≤ a <;> by_cases h1 : a ≤ 4294967295 <;> by_cases h2 : 0 ≤ b <;> by_cases h3 : b ≤ 31 <;> simp [h0, h1, h2, h3] <;> split <;> simp
  have t : ∃ r, impl_TurnRight.f a b = some r := by
    simp only [impl_TurnRight.f, impl_isWord.f, impl_within.f]
    have : 0 ≤ b → b ≤ 31 → 0 ≤ wrap64 (32 - b) := fun h h' => by rw [wrap_in (by omega) (by omega)]; omega
    by_cases h0 : 0 ≤ a <;> by_cases h1 : a ≤ 4294967295 <;> by_cases h2 : 0 ≤ b <;> by_cases h3 : b ≤ 31 <;> simp [h0, h1, h2, h3, this]
  obtain ⟨r, hr⟩ := t
  unfold laws_FnExactTurnRight.f
  rw [e, hr]
  simp

end Go.Proofs.Ytodnajlgjcoodaa.Pure
