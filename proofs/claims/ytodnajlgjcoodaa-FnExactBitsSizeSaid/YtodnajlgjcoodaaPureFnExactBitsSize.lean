/- The program's function answers what the reference's answers, for all arguments: the printed law comes to true. Conditions: those of the printed statement alone. -/
import Derived.Test.YtodnajlgjcoodaaPFnExactBitsSizex1
import Derived.Test.YtodnajlgjcoodaaLib
set_option linter.unusedVariables false
set_option linter.unusedSimpArgs false
set_option maxRecDepth 4000
namespace Go.Proofs.Ytodnajlgjcoodaa.Pure
open Go.RowKit Go.Proofs.Ytodnajlgjcoodaa.PFnExactBitsSize Go.Proofs.YtodnajlgjcoodaaW.PrintWords Go.Proofs.YtodnajlgjcoodaaW.PrintLast Go.Proofs.YtodnajlgjcoodaaW.PrintMore Go.Proofs.Ytodnajlgjcoodaa.Lib

theorem FnExactBitsSize : laws_FnExactBitsSize.Pure := by
  intro a _
  have e : spec_BitsSize.f a = impl_BitsSize.f a := rfl
  unfold laws_FnExactBitsSize.f
  rw [e]
  unfold impl_BitsSize.f
  by_cases h : a < 1
  · simp [h]
  · simp [h]

end Go.Proofs.Ytodnajlgjcoodaa.Pure
