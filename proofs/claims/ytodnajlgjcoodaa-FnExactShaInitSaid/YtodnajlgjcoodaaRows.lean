/-
  No cell of these rows narrows 'for every input' (looked for: loops, veiled, ifaces, maps, wideKeys, modest, calm, conditions, laid).
  DERIVED. THE GIVEN ROWS OF THIS SEAT. 12 by the template 'for every input the law returns true; each argument reads behind the call as it read before'; 0 by the template 'total and deterministic' (their statements: YtodnajlgjcoodaaTotals.lean).
  GIVEN WITH THE SEED: the statements are not yours to turn. If you find one false, say at which input.
  Laid BY PROGRAM, IN A SANDBOX (cutbox-rows.mjs): the forced cells as the released guide's own fill.sh prints them over the translation 1ba4bb56051acbeb… (all of the seat's roots in one cut). By AI agents, Wed Nov 11 2026. No macro, syntax, notation, axiom, sorry.
-/
import Derived.Test.YtodnajlgjcoodaaChecked
import GoSem.Claim
import GoSem.ClaimJoined
import GoSem.ClaimMapViews
import Derived.JoinedTies
import Derived.KernelRfl
namespace Go.Proofs.Ytodnajlgjcoodaa
/- THE CELL 'sum', in the pinned program and in every row, IS THE sha256 OF THE DUMP (.gsa) THAT YtodnajlgjcoodaaProg.lean LOADS. Nothing in Lean hashes anything: it is a label: what it is worth is what the hold of that sum in a sandbox is worth. -/
noncomputable def Try.pinned : Pinned := { name := "ytodnajlgjcoodaa", sum := "1ba4bb56051acbeb1e501fbcd48131479349fc3bf80d1a86e69754ac4f665056", checked := Try.checked }
namespace Rows
def none {H : Type} : Left H := { results := [], args := [] }

/-- 'laws.FnExactConstants': WHATEVER THE INPUT: true; the input reads as it did. -/
def fnExactConstantsSpec : ChangeSpec := { name := "fnExactConstants", fn := fun _ => fun
  | [] => { results := [.lit (.bool true)], args := [] }
  | _ => none }
def fnExactConstantsRow : OpenClaim := { program := "ytodnajlgjcoodaa", sum := "1ba4bb56051acbeb1e501fbcd48131479349fc3bf80d1a86e69754ac4f665056", func := "loop.example/g00790/laws.FnExactConstants", spec := "fnExactConstants", apart := false }
def FnExactConstantsSaid : Prop := fnExactConstantsRow.holds Try.pinned (OpenSpec.ofChange fnExactConstantsSpec)

/-- ITS FALSE NEIGHBOUR: 'it returns false'. Refute it at one input. -/
def fnExactConstantsWrong : ChangeSpec := { name := "fnExactConstants", fn := fun _ => fun
  | [] => { results := [.lit (.bool false)], args := [] }
  | _ => none }
def FnExactConstantsWrongFalsely : Prop := fnExactConstantsRow.holds Try.pinned (OpenSpec.ofChange fnExactConstantsWrong)

/-- 'laws.FnExactBitsSize': WHATEVER THE INPUT: true; the input reads as it did. -/
def fnExactBitsSizeSpec : ChangeSpec := { name := "fnExactBitsSize", fn := fun _ => fun
  | [d] => { results := [.lit (.bool true)], args := [d] }
  | _ => none }
def fnExactBitsSizeRow : OpenClaim := { program := "ytodnajlgjcoodaa", sum := "1ba4bb56051acbeb1e501fbcd48131479349fc3bf80d1a86e69754ac4f665056", func := "loop.example/g00790/laws.FnExactBitsSize", spec := "fnExactBitsSize", apart := false }
def FnExactBitsSizeSaid : Prop := fnExactBitsSizeRow.holds Try.pinned (OpenSpec.ofChange fnExactBitsSizeSpec)

/-- ITS FALSE NEIGHBOUR: 'it returns false'. Refute it at one input. -/
def fnExactBitsSizeWrong : ChangeSpec := { name := "fnExactBitsSize", fn := fun _ => fun
  | [d] => { results := [.lit (.bool false)], args := [d] }
  | _ => none }
def FnExactBitsSizeWrongFalsely : Prop := fnExactBitsSizeRow.holds Try.pinned (OpenSpec.ofChange fnExactBitsSizeWrong)

/-- 'laws.FnExactErName': WHATEVER THE INPUT: true; the input reads as it did. -/
def fnExactErNameSpec : ChangeSpec := { name := "fnExactErName", fn := fun _ => fun
  | [d] => { results := [.lit (.bool true)], args := [d] }
  | _ => none }
def fnExactErNameRow : OpenClaim := { program := "ytodnajlgjcoodaa", sum := "1ba4bb56051acbeb1e501fbcd48131479349fc3bf80d1a86e69754ac4f665056", func := "loop.example/g00790/laws.FnExactErName", spec := "fnExactErName", apart := false }
def FnExactErNameSaid : Prop := fnExactErNameRow.holds Try.pinned (OpenSpec.ofChange fnExactErNameSpec)

/-- ITS FALSE NEIGHBOUR: 'it returns false'. Refute it at one input. -/
def fnExactErNameWrong : ChangeSpec := { name := "fnExactErName", fn := fun _ => fun
  | [d] => { results := [.lit (.bool false)], args := [d] }
  | _ => none }
def FnExactErNameWrongFalsely : Prop := fnExactErNameRow.holds Try.pinned (OpenSpec.ofChange fnExactErNameWrong)

/-- 'laws.FnExactTurnRight': WHATEVER THE INPUT: true; the input reads as it did. -/
def fnExactTurnRightSpec : ChangeSpec := { name := "fnExactTurnRight", fn := fun _ => fun
  | [d1, d2] => { results := [.lit (.bool true)], args := [d1, d2] }
  | _ => none }
def fnExactTurnRightRow : OpenClaim := { program := "ytodnajlgjcoodaa", sum := "1ba4bb56051acbeb1e501fbcd48131479349fc3bf80d1a86e69754ac4f665056", func := "loop.example/g00790/laws.FnExactTurnRight", spec := "fnExactTurnRight", apart := false }
def FnExactTurnRightSaid : Prop := fnExactTurnRightRow.holds Try.pinned (OpenSpec.ofChange fnExactTurnRightSpec)

/-- ITS FALSE NEIGHBOUR: 'it returns false'. Refute it at one input. -/
def fnExactTurnRightWrong : ChangeSpec := { name := "fnExactTurnRight", fn := fun _ => fun
  | [d1, d2] => { results := [.lit (.bool false)], args := [d1, d2] }
  | _ => none }
def FnExactTurnRightWrongFalsely : Prop := fnExactTurnRightRow.holds Try.pinned (OpenSpec.ofChange fnExactTurnRightWrong)

/-- 'laws.FnExactSplitAt': WHATEVER THE INPUT: true; the input reads as it did. -/
def fnExactSplitAtSpec : ChangeSpec := { name := "fnExactSplitAt", fn := fun _ => fun
  | [d] => { results := [.lit (.bool true)], args := [d] }
  | _ => none }
def fnExactSplitAtRow : OpenClaim := { program := "ytodnajlgjcoodaa", sum := "1ba4bb56051acbeb1e501fbcd48131479349fc3bf80d1a86e69754ac4f665056", func := "loop.example/g00790/laws.FnExactSplitAt", spec := "fnExactSplitAt", apart := false }
def FnExactSplitAtSaid : Prop := fnExactSplitAtRow.holds Try.pinned (OpenSpec.ofChange fnExactSplitAtSpec)

/-- ITS FALSE NEIGHBOUR: 'it returns false'. Refute it at one input. -/
def fnExactSplitAtWrong : ChangeSpec := { name := "fnExactSplitAt", fn := fun _ => fun
  | [d] => { results := [.lit (.bool false)], args := [d] }
  | _ => none }
def FnExactSplitAtWrongFalsely : Prop := fnExactSplitAtRow.holds Try.pinned (OpenSpec.ofChange fnExactSplitAtWrong)

/-- 'laws.FnExactSameBytes': WHATEVER THE INPUT: true; the input reads as it did. -/
def fnExactSameBytesSpec : ChangeSpec := { name := "fnExactSameBytes", fn := fun _ => fun
  | [d1, d2] => { results := [.lit (.bool true)], args := [d1, d2] }
  | _ => none }
def fnExactSameBytesRow : OpenClaim := { program := "ytodnajlgjcoodaa", sum := "1ba4bb56051acbeb1e501fbcd48131479349fc3bf80d1a86e69754ac4f665056", func := "loop.example/g00790/laws.FnExactSameBytes", spec := "fnExactSameBytes", apart := false }
def FnExactSameBytesSaid : Prop := fnExactSameBytesRow.holds Try.pinned (OpenSpec.ofChange fnExactSameBytesSpec)

/-- ITS FALSE NEIGHBOUR: 'it returns false'. Refute it at one input. -/
def fnExactSameBytesWrong : ChangeSpec := { name := "fnExactSameBytes", fn := fun _ => fun
  | [d1, d2] => { results := [.lit (.bool false)], args := [d1, d2] }
  | _ => none }
def FnExactSameBytesWrongFalsely : Prop := fnExactSameBytesRow.holds Try.pinned (OpenSpec.ofChange fnExactSameBytesWrong)

/-- 'laws.FnExactBitsHas': WHATEVER THE INPUT: true; the input reads as it did. -/
def fnExactBitsHasSpec : ChangeSpec := { name := "fnExactBitsHas", fn := fun _ => fun
  | [d1, d2] => { results := [.lit (.bool true)], args := [d1, d2] }
  | _ => none }
def fnExactBitsHasRow : OpenClaim := { program := "ytodnajlgjcoodaa", sum := "1ba4bb56051acbeb1e501fbcd48131479349fc3bf80d1a86e69754ac4f665056", func := "loop.example/g00790/laws.FnExactBitsHas", spec := "fnExactBitsHas", apart := false }
def FnExactBitsHasSaid : Prop := fnExactBitsHasRow.holds Try.pinned (OpenSpec.ofChange fnExactBitsHasSpec)

/-- ITS FALSE NEIGHBOUR: 'it returns false'. Refute it at one input. -/
def fnExactBitsHasWrong : ChangeSpec := { name := "fnExactBitsHas", fn := fun _ => fun
  | [d1, d2] => { results := [.lit (.bool false)], args := [d1, d2] }
  | _ => none }
def FnExactBitsHasWrongFalsely : Prop := fnExactBitsHasRow.holds Try.pinned (OpenSpec.ofChange fnExactBitsHasWrong)

/-- 'laws.FnExactShaInit': WHATEVER THE INPUT: true; the input reads as it did. -/
def fnExactShaInitSpec : ChangeSpec := { name := "fnExactShaInit", fn := fun _ => fun
  | [] => { results := [.lit (.bool true)], args := [] }
  | _ => none }
def fnExactShaInitRow : OpenClaim := { program := "ytodnajlgjcoodaa", sum := "1ba4bb56051acbeb1e501fbcd48131479349fc3bf80d1a86e69754ac4f665056", func := "loop.example/g00790/laws.FnExactShaInit", spec := "fnExactShaInit", apart := false }
def FnExactShaInitSaid : Prop := fnExactShaInitRow.holds Try.pinned (OpenSpec.ofChange fnExactShaInitSpec)

/-- ITS FALSE NEIGHBOUR: 'it returns false'. Refute it at one input. -/
def fnExactShaInitWrong : ChangeSpec := { name := "fnExactShaInit", fn := fun _ => fun
  | [] => { results := [.lit (.bool false)], args := [] }
  | _ => none }
def FnExactShaInitWrongFalsely : Prop := fnExactShaInitRow.holds Try.pinned (OpenSpec.ofChange fnExactShaInitWrong)

/-- 'laws.FnExactVarSize': WHATEVER THE INPUT: true; the input reads as it did. -/
def fnExactVarSizeSpec : ChangeSpec := { name := "fnExactVarSize", fn := fun _ => fun
  | [d] => { results := [.lit (.bool true)], args := [d] }
  | _ => none }
def fnExactVarSizeRow : OpenClaim := { program := "ytodnajlgjcoodaa", sum := "1ba4bb56051acbeb1e501fbcd48131479349fc3bf80d1a86e69754ac4f665056", func := "loop.example/g00790/laws.FnExactVarSize", spec := "fnExactVarSize", apart := false }
def FnExactVarSizeSaid : Prop := fnExactVarSizeRow.holds Try.pinned (OpenSpec.ofChange fnExactVarSizeSpec)

/-- ITS FALSE NEIGHBOUR: 'it returns false'. Refute it at one input. -/
def fnExactVarSizeWrong : ChangeSpec := { name := "fnExactVarSize", fn := fun _ => fun
  | [d] => { results := [.lit (.bool false)], args := [d] }
  | _ => none }
def FnExactVarSizeWrongFalsely : Prop := fnExactVarSizeRow.holds Try.pinned (OpenSpec.ofChange fnExactVarSizeWrong)

/-- 'laws.FnExactHexText': WHATEVER THE INPUT: true; the input reads as it did. -/
def fnExactHexTextSpec : ChangeSpec := { name := "fnExactHexText", fn := fun _ => fun
  | [d] => { results := [.lit (.bool true)], args := [d] }
  | _ => none }
def fnExactHexTextRow : OpenClaim := { program := "ytodnajlgjcoodaa", sum := "1ba4bb56051acbeb1e501fbcd48131479349fc3bf80d1a86e69754ac4f665056", func := "loop.example/g00790/laws.FnExactHexText", spec := "fnExactHexText", apart := false }
def FnExactHexTextSaid : Prop := fnExactHexTextRow.holds Try.pinned (OpenSpec.ofChange fnExactHexTextSpec)

/-- ITS FALSE NEIGHBOUR: 'it returns false'. Refute it at one input. -/
def fnExactHexTextWrong : ChangeSpec := { name := "fnExactHexText", fn := fun _ => fun
  | [d] => { results := [.lit (.bool false)], args := [d] }
  | _ => none }
def FnExactHexTextWrongFalsely : Prop := fnExactHexTextRow.holds Try.pinned (OpenSpec.ofChange fnExactHexTextWrong)

/-- 'laws.FnExactCrcShift': WHATEVER THE INPUT: true; the input reads as it did. -/
def fnExactCrcShiftSpec : ChangeSpec := { name := "fnExactCrcShift", fn := fun _ => fun
  | [d1, d2] => { results := [.lit (.bool true)], args := [d1, d2] }
  | _ => none }
def fnExactCrcShiftRow : OpenClaim := { program := "ytodnajlgjcoodaa", sum := "1ba4bb56051acbeb1e501fbcd48131479349fc3bf80d1a86e69754ac4f665056", func := "loop.example/g00790/laws.FnExactCrcShift", spec := "fnExactCrcShift", apart := false }
def FnExactCrcShiftSaid : Prop := fnExactCrcShiftRow.holds Try.pinned (OpenSpec.ofChange fnExactCrcShiftSpec)

/-- ITS FALSE NEIGHBOUR: 'it returns false'. Refute it at one input. -/
def fnExactCrcShiftWrong : ChangeSpec := { name := "fnExactCrcShift", fn := fun _ => fun
  | [d1, d2] => { results := [.lit (.bool false)], args := [d1, d2] }
  | _ => none }
def FnExactCrcShiftWrongFalsely : Prop := fnExactCrcShiftRow.holds Try.pinned (OpenSpec.ofChange fnExactCrcShiftWrong)

/-- 'laws.FnExactPathLen': WHATEVER THE INPUT: true; the input reads as it did. -/
def fnExactPathLenSpec : ChangeSpec := { name := "fnExactPathLen", fn := fun _ => fun
  | [d1, d2] => { results := [.lit (.bool true)], args := [d1, d2] }
  | _ => none }
def fnExactPathLenRow : OpenClaim := { program := "ytodnajlgjcoodaa", sum := "1ba4bb56051acbeb1e501fbcd48131479349fc3bf80d1a86e69754ac4f665056", func := "loop.example/g00790/laws.FnExactPathLen", spec := "fnExactPathLen", recurses := true, apart := false }
def FnExactPathLenSaid : Prop := fnExactPathLenRow.holds Try.pinned (OpenSpec.ofChange fnExactPathLenSpec)

/-- ITS FALSE NEIGHBOUR: 'it returns false'. Refute it at one input. -/
def fnExactPathLenWrong : ChangeSpec := { name := "fnExactPathLen", fn := fun _ => fun
  | [d1, d2] => { results := [.lit (.bool false)], args := [d1, d2] }
  | _ => none }
def FnExactPathLenWrongFalsely : Prop := fnExactPathLenRow.holds Try.pinned (OpenSpec.ofChange fnExactPathLenWrong)

/- THE SECOND FORM. 'bulk': how many values and letters a reading holds, each counted each time it is reached (what is shared counts as often as it is met; a slice's spare places count too). A statement '..UptoSaid' is the law's where the arguments, and the package variables that the reading takes, are together of bulk at most 1048576: NARROWER than '..Said'. Prove '..Said' where nothing that the law and all that it calls make is longer than what came in: it says more and counts as full. Else prove '..UptoSaid'. A law counts once. -/
mutual
def uptoBulk {H : Type} : DataW H → Nat
  | .lit (.string bytes) => bytes.length + 1
  | .lit _ => 1
  | .nil => 1
  | .ptr d => uptoBulk d + 1
  | .slice elems spare => uptoBulkAll elems + uptoBulkAll spare + 1
  | .agg parts => uptoBulkAll parts + 1
  | .iface _ d => uptoBulk d + 1
  | .map entries => uptoBulkEntries entries + 1
  | .held _ => 1
def uptoBulkAll {H : Type} : List (DataW H) → Nat
  | [] => 0
  | d :: r => uptoBulk d + uptoBulkAll r
def uptoBulkEntries {H : Type} : List (Lit × DataW H) → Nat
  | [] => 0
  | x :: r => uptoBulkEntry x + uptoBulkEntries r
def uptoBulkEntry {H : Type} : Lit × DataW H → Nat
  | (.string bytes, d) => bytes.length + uptoBulk d + 1
  | (_, d) => uptoBulk d + 1
 end
def uptoSmall : (H : Type) → List (DataW H) → Bool := fun _ ds => decide (uptoBulkAll ds ≤ 1048576)
def OpenSpec.upto (s : _root_.Go.ChangeSpec) : _root_.Go.OpenSpec := { _root_.Go.OpenSpec.ofChange s with cond := some uptoSmall }

/-- 'laws.FnExactConstants', WHERE WHAT IT READS IS OF BULK AT MOST 1048576: true; the input reads as it did. -/
def fnExactConstantsUptoRow : OpenClaim := { program := "ytodnajlgjcoodaa", sum := "1ba4bb56051acbeb1e501fbcd48131479349fc3bf80d1a86e69754ac4f665056", func := "loop.example/g00790/laws.FnExactConstants", spec := "fnExactConstants", apart := false, narrowed := true }
def FnExactConstantsUptoSaid : Prop := fnExactConstantsUptoRow.holds Try.pinned (OpenSpec.upto fnExactConstantsSpec)

/-- 'laws.FnExactBitsSize', WHERE WHAT IT READS IS OF BULK AT MOST 1048576: true; the input reads as it did. -/
def fnExactBitsSizeUptoRow : OpenClaim := { program := "ytodnajlgjcoodaa", sum := "1ba4bb56051acbeb1e501fbcd48131479349fc3bf80d1a86e69754ac4f665056", func := "loop.example/g00790/laws.FnExactBitsSize", spec := "fnExactBitsSize", apart := false, narrowed := true }
def FnExactBitsSizeUptoSaid : Prop := fnExactBitsSizeUptoRow.holds Try.pinned (OpenSpec.upto fnExactBitsSizeSpec)

/-- 'laws.FnExactErName', WHERE WHAT IT READS IS OF BULK AT MOST 1048576: true; the input reads as it did. -/
def fnExactErNameUptoRow : OpenClaim := { program := "ytodnajlgjcoodaa", sum := "1ba4bb56051acbeb1e501fbcd48131479349fc3bf80d1a86e69754ac4f665056", func := "loop.example/g00790/laws.FnExactErName", spec := "fnExactErName", apart := false, narrowed := true }
def FnExactErNameUptoSaid : Prop := fnExactErNameUptoRow.holds Try.pinned (OpenSpec.upto fnExactErNameSpec)

/-- 'laws.FnExactTurnRight', WHERE WHAT IT READS IS OF BULK AT MOST 1048576: true; the input reads as it did. -/
def fnExactTurnRightUptoRow : OpenClaim := { program := "ytodnajlgjcoodaa", sum := "1ba4bb56051acbeb1e501fbcd48131479349fc3bf80d1a86e69754ac4f665056", func := "loop.example/g00790/laws.FnExactTurnRight", spec := "fnExactTurnRight", apart := false, narrowed := true }
def FnExactTurnRightUptoSaid : Prop := fnExactTurnRightUptoRow.holds Try.pinned (OpenSpec.upto fnExactTurnRightSpec)

/-- 'laws.FnExactSplitAt', WHERE WHAT IT READS IS OF BULK AT MOST 1048576: true; the input reads as it did. -/
def fnExactSplitAtUptoRow : OpenClaim := { program := "ytodnajlgjcoodaa", sum := "1ba4bb56051acbeb1e501fbcd48131479349fc3bf80d1a86e69754ac4f665056", func := "loop.example/g00790/laws.FnExactSplitAt", spec := "fnExactSplitAt", apart := false, narrowed := true }
def FnExactSplitAtUptoSaid : Prop := fnExactSplitAtUptoRow.holds Try.pinned (OpenSpec.upto fnExactSplitAtSpec)

/-- 'laws.FnExactSameBytes', WHERE WHAT IT READS IS OF BULK AT MOST 1048576: true; the input reads as it did. -/
def fnExactSameBytesUptoRow : OpenClaim := { program := "ytodnajlgjcoodaa", sum := "1ba4bb56051acbeb1e501fbcd48131479349fc3bf80d1a86e69754ac4f665056", func := "loop.example/g00790/laws.FnExactSameBytes", spec := "fnExactSameBytes", apart := false, narrowed := true }
def FnExactSameBytesUptoSaid : Prop := fnExactSameBytesUptoRow.holds Try.pinned (OpenSpec.upto fnExactSameBytesSpec)

/-- 'laws.FnExactBitsHas', WHERE WHAT IT READS IS OF BULK AT MOST 1048576: true; the input reads as it did. -/
def fnExactBitsHasUptoRow : OpenClaim := { program := "ytodnajlgjcoodaa", sum := "1ba4bb56051acbeb1e501fbcd48131479349fc3bf80d1a86e69754ac4f665056", func := "loop.example/g00790/laws.FnExactBitsHas", spec := "fnExactBitsHas", apart := false, narrowed := true }
def FnExactBitsHasUptoSaid : Prop := fnExactBitsHasUptoRow.holds Try.pinned (OpenSpec.upto fnExactBitsHasSpec)

/-- 'laws.FnExactShaInit', WHERE WHAT IT READS IS OF BULK AT MOST 1048576: true; the input reads as it did. -/
def fnExactShaInitUptoRow : OpenClaim := { program := "ytodnajlgjcoodaa", sum := "1ba4bb56051acbeb1e501fbcd48131479349fc3bf80d1a86e69754ac4f665056", func := "loop.example/g00790/laws.FnExactShaInit", spec := "fnExactShaInit", apart := false, narrowed := true }
def FnExactShaInitUptoSaid : Prop := fnExactShaInitUptoRow.holds Try.pinned (OpenSpec.upto fnExactShaInitSpec)

/-- 'laws.FnExactVarSize', WHERE WHAT IT READS IS OF BULK AT MOST 1048576: true; the input reads as it did. -/
def fnExactVarSizeUptoRow : OpenClaim := { program := "ytodnajlgjcoodaa", sum := "1ba4bb56051acbeb1e501fbcd48131479349fc3bf80d1a86e69754ac4f665056", func := "loop.example/g00790/laws.FnExactVarSize", spec := "fnExactVarSize", apart := false, narrowed := true }
def FnExactVarSizeUptoSaid : Prop := fnExactVarSizeUptoRow.holds Try.pinned (OpenSpec.upto fnExactVarSizeSpec)

/-- 'laws.FnExactHexText', WHERE WHAT IT READS IS OF BULK AT MOST 1048576: true; the input reads as it did. -/
def fnExactHexTextUptoRow : OpenClaim := { program := "ytodnajlgjcoodaa", sum := "1ba4bb56051acbeb1e501fbcd48131479349fc3bf80d1a86e69754ac4f665056", func := "loop.example/g00790/laws.FnExactHexText", spec := "fnExactHexText", apart := false, narrowed := true }
def FnExactHexTextUptoSaid : Prop := fnExactHexTextUptoRow.holds Try.pinned (OpenSpec.upto fnExactHexTextSpec)

/-- 'laws.FnExactCrcShift', WHERE WHAT IT READS IS OF BULK AT MOST 1048576: true; the input reads as it did. -/
def fnExactCrcShiftUptoRow : OpenClaim := { program := "ytodnajlgjcoodaa", sum := "1ba4bb56051acbeb1e501fbcd48131479349fc3bf80d1a86e69754ac4f665056", func := "loop.example/g00790/laws.FnExactCrcShift", spec := "fnExactCrcShift", apart := false, narrowed := true }
def FnExactCrcShiftUptoSaid : Prop := fnExactCrcShiftUptoRow.holds Try.pinned (OpenSpec.upto fnExactCrcShiftSpec)

/-- 'laws.FnExactPathLen', WHERE WHAT IT READS IS OF BULK AT MOST 1048576: true; the input reads as it did. -/
def fnExactPathLenUptoRow : OpenClaim := { program := "ytodnajlgjcoodaa", sum := "1ba4bb56051acbeb1e501fbcd48131479349fc3bf80d1a86e69754ac4f665056", func := "loop.example/g00790/laws.FnExactPathLen", spec := "fnExactPathLen", recurses := true, apart := false, narrowed := true }
def FnExactPathLenUptoSaid : Prop := fnExactPathLenUptoRow.holds Try.pinned (OpenSpec.upto fnExactPathLenSpec)

end Rows
end Go.Proofs.Ytodnajlgjcoodaa
