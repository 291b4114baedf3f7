/- The program's number of a text, as one plain function. No conditions but those typed. -/
import Derived.Test.YtdhbfpfonnelgaaDoorNumD
namespace Go.Proofs.YtdhbfpfonnelgaaDoor.NumBase
open Go.RowKit Go.Proofs.YtdhbfpfonnelgaaDoorW.PrintWords Go.Proofs.YtdhbfpfonnelgaaDoorW.PrintLast Go.Proofs.YtdhbfpfonnelgaaDoorW.PrintMore Go.Proofs.YtdhbfpfonnelgaaDoor.Lib
set_option linter.unusedVariables false
def textNum (s : ByteArray) : Int × Bool := match Go.Lib.atoiAll s.data.toList with
  | .ok n => if 0 ≤ n ∧ n ≤ 1152921504606846975 ∧ decText n.toNat = s then (n, true) else (0, false)
  | _ => (0, false)
theorem textNum_dec {n : Nat} (hn : n ≤ 1152921504606846975) : textNum (decText n) = ((n : Int), true) := by
  have hd : (decText n).data.toList = Go.Lib.decDigits n := by simp [decText]
  unfold textNum
  rw [hd, atoi_dec n hn]
  simp only [Int.toNat_natCast]
  rw [if_pos ⟨by omega, by omega, trivial⟩]
theorem textNum_no (s : ByteArray) (h : ∀ n, ¬ IsNumText s n) : textNum s = (0, false) := by
  unfold textNum
  split
  · rename_i n _
    rw [if_neg]
    intro q
    exact h n.toNat ⟨by omega, q.2.2.symm⟩
  · rfl
theorem impl_textNum (s : ByteArray) (hs : s.size ≤ 1048576) (w : World) (hv : Vars w) :
    Calls Tryd.prog 9 #[.string s] w fun e w' => e = .returned (.tuple #[.int .i64 (textNum s).1, .bool (textNum s).2]) ∧ Below w.heap.size w w' := by
  by_cases h : ∃ n, IsNumText s n
  · obtain ⟨n, hn⟩ := h
    have e : textNum s = ((n : Int), true) := by rw [hn.2]; exact textNum_dec hn.1
    rw [e]
    exact impl_yes s n hn hs w hv
  · rw [textNum_no s (fun n q => h ⟨n, q⟩)]
    exact impl_no s (fun n q => h ⟨n, q⟩) hs w hv
end Go.Proofs.YtdhbfpfonnelgaaDoor.NumBase
