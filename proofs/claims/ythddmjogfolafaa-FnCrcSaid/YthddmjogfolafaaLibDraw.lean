/- A draw's byte, masked, is a byte. No conditions but those typed. -/
import Derived.Test.YthddmjogfolafaaLib
set_option linter.unusedVariables false
set_option linter.unusedSimpArgs false
namespace Go.Proofs.Ythddmjogfolafaa.Lib
open Go.RowKit Go.Proofs.YthddmjogfolafaaW.PrintWords Go.Proofs.YthddmjogfolafaaW.PrintLast Go.Proofs.YthddmjogfolafaaW.PrintMore
theorem and255 (x : Int) : 0 ≤ Go.bits .and .i64 x 255 ∧ Go.bits .and .i64 x 255 ≤ 255 := by
  have h : (BitVec.ofInt 64 x &&& BitVec.ofInt 64 255).toNat ≤ 255 := by
    rw [BitVec.toNat_and]
    exact Nat.and_le_right
  have e : Go.bits .and .i64 x 255 = IntKind.i64.wrap ((BitVec.ofInt 64 x &&& BitVec.ofInt 64 255).toNat : Int) := rfl
  rw [e, IntKind.wrap_i64]
  generalize (BitVec.ofInt 64 x &&& BitVec.ofInt 64 255).toNat = n at h
  omega
end Go.Proofs.Ythddmjogfolafaa.Lib
