/- The program's function answers what the reference's answers, for all arguments: the printed law comes to true. Conditions: those of the printed statement alone. -/
import Derived.Test.YtodnajlgjcoodaaPFnExactErNamex1
import Derived.Test.YtodnajlgjcoodaaLib
set_option linter.unusedVariables false
set_option linter.unusedSimpArgs false
set_option maxRecDepth 4000
namespace Go.Proofs.Ytodnajlgjcoodaa.Pure
open Go.RowKit Go.Proofs.Ytodnajlgjcoodaa.PFnExactErName Go.Proofs.YtodnajlgjcoodaaW.PrintWords Go.Proofs.YtodnajlgjcoodaaW.PrintLast Go.Proofs.YtodnajlgjcoodaaW.PrintMore Go.Proofs.Ytodnajlgjcoodaa.Lib

theorem FnExactErName : laws_FnExactErName.Pure := by
  intro a ha
  have hb := wf_i64.1 ha
  by_cases h0 : 0 ≤ a
  · by_cases h9 : a ≤ 9
    · have hc : a = 0 ∨ a = 1 ∨ a = 2 ∨ a = 3 ∨ a = 4 ∨ a = 5 ∨ a = 6 ∨ a = 7 ∨ a = 8 ∨ a = 9 := by omega
      rcases hc with rfl | rfl | rfl | rfl | rfl | rfl | rfl | rfl | rfl | rfl <;> simp [laws_FnExactErName.f, spec_ErName.f, spec_l01In.f, impl_ErName.f, impl_nameAt.f, impl_within.f, wrap64]
    · simp [laws_FnExactErName.f, spec_ErName.f, spec_l01In.f, impl_ErName.f, impl_nameAt.f, impl_within.f, h0, h9, wrap64]
  · simp [laws_FnExactErName.f, spec_ErName.f, spec_l01In.f, impl_ErName.f, impl_nameAt.f, impl_within.f, h0]

end Go.Proofs.Ytodnajlgjcoodaa.Pure
