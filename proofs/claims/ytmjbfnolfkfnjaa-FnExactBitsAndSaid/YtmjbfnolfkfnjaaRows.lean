/-
  No cell of these rows narrows 'for every input' (looked for: loops, veiled, ifaces, maps, wideKeys, modest, calm, conditions, laid).
  DERIVED. THE GIVEN ROWS OF THIS SEAT. 12 by the template 'for every input the law returns true; each argument reads behind the call as it read before'; 0 by the template 'total and deterministic' (their statements: YtmjbfnolfkfnjaaTotals.lean).
  GIVEN WITH THE SEED: the statements are not yours to turn. If you find one false, say at which input.
  Laid BY PROGRAM, IN A SANDBOX (cutbox-rows.mjs): the forced cells as the released guide's own fill.sh prints them over the translation 2bb87fa4b6fff67a… (all of the seat's roots in one cut). By AI agents, Wed Nov 11 2026. No macro, syntax, notation, axiom, sorry.
-/
import Derived.Test.YtmjbfnolfkfnjaaChecked
import GoSem.Claim
import GoSem.ClaimJoined
import GoSem.ClaimMapViews
import Derived.JoinedTies
import Derived.KernelRfl
namespace Go.Proofs.Ytmjbfnolfkfnjaa
/- THE CELL 'sum', in the pinned program and in every row, IS THE sha256 OF THE DUMP (.gsa) THAT YtmjbfnolfkfnjaaProg.lean LOADS. Nothing in Lean hashes anything: it is a label: what it is worth is what the hold of that sum in a sandbox is worth. -/
noncomputable def Try.pinned : Pinned := { name := "ytmjbfnolfkfnjaa", sum := "2bb87fa4b6fff67a08fe05a2823a44755e3ae9a84ca7370df97c16787421cc8b", checked := Try.checked }
namespace Rows
def none {H : Type} : Left H := { results := [], args := [] }

/-- 'laws.FnExactBitsCount': WHATEVER THE INPUT: true; the input reads as it did. -/
def fnExactBitsCountSpec : ChangeSpec := { name := "fnExactBitsCount", fn := fun _ => fun
  | [d] => { results := [.lit (.bool true)], args := [d] }
  | _ => none }
def fnExactBitsCountRow : OpenClaim := { program := "ytmjbfnolfkfnjaa", sum := "2bb87fa4b6fff67a08fe05a2823a44755e3ae9a84ca7370df97c16787421cc8b", func := "loop.example/g00790/laws.FnExactBitsCount", spec := "fnExactBitsCount", apart := false }
def FnExactBitsCountSaid : Prop := fnExactBitsCountRow.holds Try.pinned (OpenSpec.ofChange fnExactBitsCountSpec)

/-- ITS FALSE NEIGHBOUR: 'it returns false'. Refute it at one input. -/
def fnExactBitsCountWrong : ChangeSpec := { name := "fnExactBitsCount", fn := fun _ => fun
  | [d] => { results := [.lit (.bool false)], args := [d] }
  | _ => none }
def FnExactBitsCountWrongFalsely : Prop := fnExactBitsCountRow.holds Try.pinned (OpenSpec.ofChange fnExactBitsCountWrong)

/-- 'laws.FnExactBitsIn': WHATEVER THE INPUT: true; the input reads as it did. -/
def fnExactBitsInSpec : ChangeSpec := { name := "fnExactBitsIn", fn := fun _ => fun
  | [d1, d2] => { results := [.lit (.bool true)], args := [d1, d2] }
  | _ => none }
def fnExactBitsInRow : OpenClaim := { program := "ytmjbfnolfkfnjaa", sum := "2bb87fa4b6fff67a08fe05a2823a44755e3ae9a84ca7370df97c16787421cc8b", func := "loop.example/g00790/laws.FnExactBitsIn", spec := "fnExactBitsIn", unfollowed := true, recurses := true, apart := false }
def FnExactBitsInSaid : Prop := fnExactBitsInRow.holds Try.pinned (OpenSpec.ofChange fnExactBitsInSpec)

/-- ITS FALSE NEIGHBOUR: 'it returns false'. Refute it at one input. -/
def fnExactBitsInWrong : ChangeSpec := { name := "fnExactBitsIn", fn := fun _ => fun
  | [d1, d2] => { results := [.lit (.bool false)], args := [d1, d2] }
  | _ => none }
def FnExactBitsInWrongFalsely : Prop := fnExactBitsInRow.holds Try.pinned (OpenSpec.ofChange fnExactBitsInWrong)

/-- 'laws.FnExactGetRaw': WHATEVER THE INPUT: true; the input reads as it did. -/
def fnExactGetRawSpec : ChangeSpec := { name := "fnExactGetRaw", fn := fun _ => fun
  | [d1, d2, d3] => { results := [.lit (.bool true)], args := [d1, d2, d3] }
  | _ => none }
def fnExactGetRawRow : OpenClaim := { program := "ytmjbfnolfkfnjaa", sum := "2bb87fa4b6fff67a08fe05a2823a44755e3ae9a84ca7370df97c16787421cc8b", func := "loop.example/g00790/laws.FnExactGetRaw", spec := "fnExactGetRaw", apart := false }
def FnExactGetRawSaid : Prop := fnExactGetRawRow.holds Try.pinned (OpenSpec.ofChange fnExactGetRawSpec)

/-- ITS FALSE NEIGHBOUR: 'it returns false'. Refute it at one input. -/
def fnExactGetRawWrong : ChangeSpec := { name := "fnExactGetRaw", fn := fun _ => fun
  | [d1, d2, d3] => { results := [.lit (.bool false)], args := [d1, d2, d3] }
  | _ => none }
def FnExactGetRawWrongFalsely : Prop := fnExactGetRawRow.holds Try.pinned (OpenSpec.ofChange fnExactGetRawWrong)

/-- 'laws.FnExactCrcJoin': WHATEVER THE INPUT: true; the input reads as it did. -/
def fnExactCrcJoinSpec : ChangeSpec := { name := "fnExactCrcJoin", fn := fun _ => fun
  | [d1, d2, d3] => { results := [.lit (.bool true)], args := [d1, d2, d3] }
  | _ => none }
def fnExactCrcJoinRow : OpenClaim := { program := "ytmjbfnolfkfnjaa", sum := "2bb87fa4b6fff67a08fe05a2823a44755e3ae9a84ca7370df97c16787421cc8b", func := "loop.example/g00790/laws.FnExactCrcJoin", spec := "fnExactCrcJoin", apart := false }
def FnExactCrcJoinSaid : Prop := fnExactCrcJoinRow.holds Try.pinned (OpenSpec.ofChange fnExactCrcJoinSpec)

/-- ITS FALSE NEIGHBOUR: 'it returns false'. Refute it at one input. -/
def fnExactCrcJoinWrong : ChangeSpec := { name := "fnExactCrcJoin", fn := fun _ => fun
  | [d1, d2, d3] => { results := [.lit (.bool false)], args := [d1, d2, d3] }
  | _ => none }
def FnExactCrcJoinWrongFalsely : Prop := fnExactCrcJoinRow.holds Try.pinned (OpenSpec.ofChange fnExactCrcJoinWrong)

/-- 'laws.FnExactGetFix': WHATEVER THE INPUT: true; the input reads as it did. -/
def fnExactGetFixSpec : ChangeSpec := { name := "fnExactGetFix", fn := fun _ => fun
  | [d1, d2, d3] => { results := [.lit (.bool true)], args := [d1, d2, d3] }
  | _ => none }
def fnExactGetFixRow : OpenClaim := { program := "ytmjbfnolfkfnjaa", sum := "2bb87fa4b6fff67a08fe05a2823a44755e3ae9a84ca7370df97c16787421cc8b", func := "loop.example/g00790/laws.FnExactGetFix", spec := "fnExactGetFix", apart := false }
def FnExactGetFixSaid : Prop := fnExactGetFixRow.holds Try.pinned (OpenSpec.ofChange fnExactGetFixSpec)

/-- ITS FALSE NEIGHBOUR: 'it returns false'. Refute it at one input. -/
def fnExactGetFixWrong : ChangeSpec := { name := "fnExactGetFix", fn := fun _ => fun
  | [d1, d2, d3] => { results := [.lit (.bool false)], args := [d1, d2, d3] }
  | _ => none }
def FnExactGetFixWrongFalsely : Prop := fnExactGetFixRow.holds Try.pinned (OpenSpec.ofChange fnExactGetFixWrong)

/-- 'laws.FnExactBitsNew': WHATEVER THE INPUT: true; the input reads as it did. -/
def fnExactBitsNewSpec : ChangeSpec := { name := "fnExactBitsNew", fn := fun _ => fun
  | [d] => { results := [.lit (.bool true)], args := [d] }
  | _ => none }
def fnExactBitsNewRow : OpenClaim := { program := "ytmjbfnolfkfnjaa", sum := "2bb87fa4b6fff67a08fe05a2823a44755e3ae9a84ca7370df97c16787421cc8b", func := "loop.example/g00790/laws.FnExactBitsNew", spec := "fnExactBitsNew", apart := false }
def FnExactBitsNewSaid : Prop := fnExactBitsNewRow.holds Try.pinned (OpenSpec.ofChange fnExactBitsNewSpec)

/-- ITS FALSE NEIGHBOUR: 'it returns false'. Refute it at one input. -/
def fnExactBitsNewWrong : ChangeSpec := { name := "fnExactBitsNew", fn := fun _ => fun
  | [d] => { results := [.lit (.bool false)], args := [d] }
  | _ => none }
def FnExactBitsNewWrongFalsely : Prop := fnExactBitsNewRow.holds Try.pinned (OpenSpec.ofChange fnExactBitsNewWrong)

/-- 'laws.FnExactBitsAnd': WHATEVER THE INPUT: true; the input reads as it did. -/
def fnExactBitsAndSpec : ChangeSpec := { name := "fnExactBitsAnd", fn := fun _ => fun
  | [d1, d2] => { results := [.lit (.bool true)], args := [d1, d2] }
  | _ => none }
def fnExactBitsAndRow : OpenClaim := { program := "ytmjbfnolfkfnjaa", sum := "2bb87fa4b6fff67a08fe05a2823a44755e3ae9a84ca7370df97c16787421cc8b", func := "loop.example/g00790/laws.FnExactBitsAnd", spec := "fnExactBitsAnd", unfollowed := true, recurses := true, apart := false }
def FnExactBitsAndSaid : Prop := fnExactBitsAndRow.holds Try.pinned (OpenSpec.ofChange fnExactBitsAndSpec)

/-- ITS FALSE NEIGHBOUR: 'it returns false'. Refute it at one input. -/
def fnExactBitsAndWrong : ChangeSpec := { name := "fnExactBitsAnd", fn := fun _ => fun
  | [d1, d2] => { results := [.lit (.bool false)], args := [d1, d2] }
  | _ => none }
def FnExactBitsAndWrongFalsely : Prop := fnExactBitsAndRow.holds Try.pinned (OpenSpec.ofChange fnExactBitsAndWrong)

/-- 'laws.FnExactBitsOr': WHATEVER THE INPUT: true; the input reads as it did. -/
def fnExactBitsOrSpec : ChangeSpec := { name := "fnExactBitsOr", fn := fun _ => fun
  | [d1, d2] => { results := [.lit (.bool true)], args := [d1, d2] }
  | _ => none }
def fnExactBitsOrRow : OpenClaim := { program := "ytmjbfnolfkfnjaa", sum := "2bb87fa4b6fff67a08fe05a2823a44755e3ae9a84ca7370df97c16787421cc8b", func := "loop.example/g00790/laws.FnExactBitsOr", spec := "fnExactBitsOr", unfollowed := true, recurses := true, apart := false }
def FnExactBitsOrSaid : Prop := fnExactBitsOrRow.holds Try.pinned (OpenSpec.ofChange fnExactBitsOrSpec)

/-- ITS FALSE NEIGHBOUR: 'it returns false'. Refute it at one input. -/
def fnExactBitsOrWrong : ChangeSpec := { name := "fnExactBitsOr", fn := fun _ => fun
  | [d1, d2] => { results := [.lit (.bool false)], args := [d1, d2] }
  | _ => none }
def FnExactBitsOrWrongFalsely : Prop := fnExactBitsOrRow.holds Try.pinned (OpenSpec.ofChange fnExactBitsOrWrong)

/-- 'laws.FnExactShaPad': WHATEVER THE INPUT: true; the input reads as it did. -/
def fnExactShaPadSpec : ChangeSpec := { name := "fnExactShaPad", fn := fun _ => fun
  | [d] => { results := [.lit (.bool true)], args := [d] }
  | _ => none }
def fnExactShaPadRow : OpenClaim := { program := "ytmjbfnolfkfnjaa", sum := "2bb87fa4b6fff67a08fe05a2823a44755e3ae9a84ca7370df97c16787421cc8b", func := "loop.example/g00790/laws.FnExactShaPad", spec := "fnExactShaPad", apart := false }
def FnExactShaPadSaid : Prop := fnExactShaPadRow.holds Try.pinned (OpenSpec.ofChange fnExactShaPadSpec)

/-- ITS FALSE NEIGHBOUR: 'it returns false'. Refute it at one input. -/
def fnExactShaPadWrong : ChangeSpec := { name := "fnExactShaPad", fn := fun _ => fun
  | [d] => { results := [.lit (.bool false)], args := [d] }
  | _ => none }
def FnExactShaPadWrongFalsely : Prop := fnExactShaPadRow.holds Try.pinned (OpenSpec.ofChange fnExactShaPadWrong)

/-- 'laws.FnExactPutFix': WHATEVER THE INPUT: true; the input reads as it did. -/
def fnExactPutFixSpec : ChangeSpec := { name := "fnExactPutFix", fn := fun _ => fun
  | [d1, d2, d3] => { results := [.lit (.bool true)], args := [d1, d2, d3] }
  | _ => none }
def fnExactPutFixRow : OpenClaim := { program := "ytmjbfnolfkfnjaa", sum := "2bb87fa4b6fff67a08fe05a2823a44755e3ae9a84ca7370df97c16787421cc8b", func := "loop.example/g00790/laws.FnExactPutFix", spec := "fnExactPutFix", apart := false }
def FnExactPutFixSaid : Prop := fnExactPutFixRow.holds Try.pinned (OpenSpec.ofChange fnExactPutFixSpec)

/-- ITS FALSE NEIGHBOUR: 'it returns false'. Refute it at one input. -/
def fnExactPutFixWrong : ChangeSpec := { name := "fnExactPutFix", fn := fun _ => fun
  | [d1, d2, d3] => { results := [.lit (.bool false)], args := [d1, d2, d3] }
  | _ => none }
def FnExactPutFixWrongFalsely : Prop := fnExactPutFixRow.holds Try.pinned (OpenSpec.ofChange fnExactPutFixWrong)

/-- 'laws.FnExactCrcMore': WHATEVER THE INPUT: true; the input reads as it did. -/
def fnExactCrcMoreSpec : ChangeSpec := { name := "fnExactCrcMore", fn := fun _ => fun
  | [d1, d2] => { results := [.lit (.bool true)], args := [d1, d2] }
  | _ => none }
def fnExactCrcMoreRow : OpenClaim := { program := "ytmjbfnolfkfnjaa", sum := "2bb87fa4b6fff67a08fe05a2823a44755e3ae9a84ca7370df97c16787421cc8b", func := "loop.example/g00790/laws.FnExactCrcMore", spec := "fnExactCrcMore", apart := false }
def FnExactCrcMoreSaid : Prop := fnExactCrcMoreRow.holds Try.pinned (OpenSpec.ofChange fnExactCrcMoreSpec)

/-- ITS FALSE NEIGHBOUR: 'it returns false'. Refute it at one input. -/
def fnExactCrcMoreWrong : ChangeSpec := { name := "fnExactCrcMore", fn := fun _ => fun
  | [d1, d2] => { results := [.lit (.bool false)], args := [d1, d2] }
  | _ => none }
def FnExactCrcMoreWrongFalsely : Prop := fnExactCrcMoreRow.holds Try.pinned (OpenSpec.ofChange fnExactCrcMoreWrong)

/-- 'laws.FnExactPutVar': WHATEVER THE INPUT: true; the input reads as it did. -/
def fnExactPutVarSpec : ChangeSpec := { name := "fnExactPutVar", fn := fun _ => fun
  | [d1, d2] => { results := [.lit (.bool true)], args := [d1, d2] }
  | _ => none }
def fnExactPutVarRow : OpenClaim := { program := "ytmjbfnolfkfnjaa", sum := "2bb87fa4b6fff67a08fe05a2823a44755e3ae9a84ca7370df97c16787421cc8b", func := "loop.example/g00790/laws.FnExactPutVar", spec := "fnExactPutVar", apart := false }
def FnExactPutVarSaid : Prop := fnExactPutVarRow.holds Try.pinned (OpenSpec.ofChange fnExactPutVarSpec)

/-- ITS FALSE NEIGHBOUR: 'it returns false'. Refute it at one input. -/
def fnExactPutVarWrong : ChangeSpec := { name := "fnExactPutVar", fn := fun _ => fun
  | [d1, d2] => { results := [.lit (.bool false)], args := [d1, d2] }
  | _ => none }
def FnExactPutVarWrongFalsely : Prop := fnExactPutVarRow.holds Try.pinned (OpenSpec.ofChange fnExactPutVarWrong)

/- THE SECOND FORM. 'bulk': how many values and letters a reading holds, each counted each time it is reached (what is shared counts as often as it is met; a slice's spare places count too). A statement '..UptoSaid' is the law's where the arguments, and the package variables that the reading takes, are together of bulk at most 1048576: NARROWER than '..Said'. Prove '..Said' where nothing that the law and all that it calls make is longer than what came in: it says more and counts as full. Else prove '..UptoSaid'. A law counts once. -/
mutual
def uptoBulk {H : Type} : DataW H → Nat
  | .lit (.string bytes) => bytes.length + 1
  | .lit _ => 1
  | .nil => 1
  | .ptr d => uptoBulk d + 1
  | .slice elems spare => uptoBulkAll elems + uptoBulkAll spare + 1
  | .agg parts => uptoBulkAll parts + 1
  | .iface _ d => uptoBulk d + 1
  | .map entries => uptoBulkEntries entries + 1
  | .held _ => 1
def uptoBulkAll {H : Type} : List (DataW H) → Nat
  | [] => 0
  | d :: r => uptoBulk d + uptoBulkAll r
def uptoBulkEntries {H : Type} : List (Lit × DataW H) → Nat
  | [] => 0
  | x :: r => uptoBulkEntry x + uptoBulkEntries r
def uptoBulkEntry {H : Type} : Lit × DataW H → Nat
  | (.string bytes, d) => bytes.length + uptoBulk d + 1
  | (_, d) => uptoBulk d + 1
 end
def uptoSmall : (H : Type) → List (DataW H) → Bool := fun _ ds => decide (uptoBulkAll ds ≤ 1048576)
def OpenSpec.upto (s : _root_.Go.ChangeSpec) : _root_.Go.OpenSpec := { _root_.Go.OpenSpec.ofChange s with cond := some uptoSmall }

/-- 'laws.FnExactBitsCount', WHERE WHAT IT READS IS OF BULK AT MOST 1048576: true; the input reads as it did. -/
def fnExactBitsCountUptoRow : OpenClaim := { program := "ytmjbfnolfkfnjaa", sum := "2bb87fa4b6fff67a08fe05a2823a44755e3ae9a84ca7370df97c16787421cc8b", func := "loop.example/g00790/laws.FnExactBitsCount", spec := "fnExactBitsCount", apart := false, narrowed := true }
def FnExactBitsCountUptoSaid : Prop := fnExactBitsCountUptoRow.holds Try.pinned (OpenSpec.upto fnExactBitsCountSpec)

/-- 'laws.FnExactBitsIn', WHERE WHAT IT READS IS OF BULK AT MOST 1048576: true; the input reads as it did. -/
def fnExactBitsInUptoRow : OpenClaim := { program := "ytmjbfnolfkfnjaa", sum := "2bb87fa4b6fff67a08fe05a2823a44755e3ae9a84ca7370df97c16787421cc8b", func := "loop.example/g00790/laws.FnExactBitsIn", spec := "fnExactBitsIn", unfollowed := true, recurses := true, apart := false, narrowed := true }
def FnExactBitsInUptoSaid : Prop := fnExactBitsInUptoRow.holds Try.pinned (OpenSpec.upto fnExactBitsInSpec)

/-- 'laws.FnExactGetRaw', WHERE WHAT IT READS IS OF BULK AT MOST 1048576: true; the input reads as it did. -/
def fnExactGetRawUptoRow : OpenClaim := { program := "ytmjbfnolfkfnjaa", sum := "2bb87fa4b6fff67a08fe05a2823a44755e3ae9a84ca7370df97c16787421cc8b", func := "loop.example/g00790/laws.FnExactGetRaw", spec := "fnExactGetRaw", apart := false, narrowed := true }
def FnExactGetRawUptoSaid : Prop := fnExactGetRawUptoRow.holds Try.pinned (OpenSpec.upto fnExactGetRawSpec)

/-- 'laws.FnExactCrcJoin', WHERE WHAT IT READS IS OF BULK AT MOST 1048576: true; the input reads as it did. -/
def fnExactCrcJoinUptoRow : OpenClaim := { program := "ytmjbfnolfkfnjaa", sum := "2bb87fa4b6fff67a08fe05a2823a44755e3ae9a84ca7370df97c16787421cc8b", func := "loop.example/g00790/laws.FnExactCrcJoin", spec := "fnExactCrcJoin", apart := false, narrowed := true }
def FnExactCrcJoinUptoSaid : Prop := fnExactCrcJoinUptoRow.holds Try.pinned (OpenSpec.upto fnExactCrcJoinSpec)

/-- 'laws.FnExactGetFix', WHERE WHAT IT READS IS OF BULK AT MOST 1048576: true; the input reads as it did. -/
def fnExactGetFixUptoRow : OpenClaim := { program := "ytmjbfnolfkfnjaa", sum := "2bb87fa4b6fff67a08fe05a2823a44755e3ae9a84ca7370df97c16787421cc8b", func := "loop.example/g00790/laws.FnExactGetFix", spec := "fnExactGetFix", apart := false, narrowed := true }
def FnExactGetFixUptoSaid : Prop := fnExactGetFixUptoRow.holds Try.pinned (OpenSpec.upto fnExactGetFixSpec)

/-- 'laws.FnExactBitsNew', WHERE WHAT IT READS IS OF BULK AT MOST 1048576: true; the input reads as it did. -/
def fnExactBitsNewUptoRow : OpenClaim := { program := "ytmjbfnolfkfnjaa", sum := "2bb87fa4b6fff67a08fe05a2823a44755e3ae9a84ca7370df97c16787421cc8b", func := "loop.example/g00790/laws.FnExactBitsNew", spec := "fnExactBitsNew", apart := false, narrowed := true }
def FnExactBitsNewUptoSaid : Prop := fnExactBitsNewUptoRow.holds Try.pinned (OpenSpec.upto fnExactBitsNewSpec)

/-- 'laws.FnExactBitsAnd', WHERE WHAT IT READS IS OF BULK AT MOST 1048576: true; the input reads as it did. -/
def fnExactBitsAndUptoRow : OpenClaim := { program := "ytmjbfnolfkfnjaa", sum := "2bb87fa4b6fff67a08fe05a2823a44755e3ae9a84ca7370df97c16787421cc8b", func := "loop.example/g00790/laws.FnExactBitsAnd", spec := "fnExactBitsAnd", unfollowed := true, recurses := true, apart := false, narrowed := true }
def FnExactBitsAndUptoSaid : Prop := fnExactBitsAndUptoRow.holds Try.pinned (OpenSpec.upto fnExactBitsAndSpec)

/-- 'laws.FnExactBitsOr', WHERE WHAT IT READS IS OF BULK AT MOST 1048576: true; the input reads as it did. -/
def fnExactBitsOrUptoRow : OpenClaim := { program := "ytmjbfnolfkfnjaa", sum := "2bb87fa4b6fff67a08fe05a2823a44755e3ae9a84ca7370df97c16787421cc8b", func := "loop.example/g00790/laws.FnExactBitsOr", spec := "fnExactBitsOr", unfollowed := true, recurses := true, apart := false, narrowed := true }
def FnExactBitsOrUptoSaid : Prop := fnExactBitsOrUptoRow.holds Try.pinned (OpenSpec.upto fnExactBitsOrSpec)

/-- 'laws.FnExactShaPad', WHERE WHAT IT READS IS OF BULK AT MOST 1048576: true; the input reads as it did. -/
def fnExactShaPadUptoRow : OpenClaim := { program := "ytmjbfnolfkfnjaa", sum := "2bb87fa4b6fff67a08fe05a2823a44755e3ae9a84ca7370df97c16787421cc8b", func := "loop.example/g00790/laws.FnExactShaPad", spec := "fnExactShaPad", apart := false, narrowed := true }
def FnExactShaPadUptoSaid : Prop := fnExactShaPadUptoRow.holds Try.pinned (OpenSpec.upto fnExactShaPadSpec)

/-- 'laws.FnExactPutFix', WHERE WHAT IT READS IS OF BULK AT MOST 1048576: true; the input reads as it did. -/
def fnExactPutFixUptoRow : OpenClaim := { program := "ytmjbfnolfkfnjaa", sum := "2bb87fa4b6fff67a08fe05a2823a44755e3ae9a84ca7370df97c16787421cc8b", func := "loop.example/g00790/laws.FnExactPutFix", spec := "fnExactPutFix", apart := false, narrowed := true }
def FnExactPutFixUptoSaid : Prop := fnExactPutFixUptoRow.holds Try.pinned (OpenSpec.upto fnExactPutFixSpec)

/-- 'laws.FnExactCrcMore', WHERE WHAT IT READS IS OF BULK AT MOST 1048576: true; the input reads as it did. -/
def fnExactCrcMoreUptoRow : OpenClaim := { program := "ytmjbfnolfkfnjaa", sum := "2bb87fa4b6fff67a08fe05a2823a44755e3ae9a84ca7370df97c16787421cc8b", func := "loop.example/g00790/laws.FnExactCrcMore", spec := "fnExactCrcMore", apart := false, narrowed := true }
def FnExactCrcMoreUptoSaid : Prop := fnExactCrcMoreUptoRow.holds Try.pinned (OpenSpec.upto fnExactCrcMoreSpec)

/-- 'laws.FnExactPutVar', WHERE WHAT IT READS IS OF BULK AT MOST 1048576: true; the input reads as it did. -/
def fnExactPutVarUptoRow : OpenClaim := { program := "ytmjbfnolfkfnjaa", sum := "2bb87fa4b6fff67a08fe05a2823a44755e3ae9a84ca7370df97c16787421cc8b", func := "loop.example/g00790/laws.FnExactPutVar", spec := "fnExactPutVar", apart := false, narrowed := true }
def FnExactPutVarUptoSaid : Prop := fnExactPutVarUptoRow.holds Try.pinned (OpenSpec.upto fnExactPutVarSpec)

end Rows
end Go.Proofs.Ytmjbfnolfkfnjaa
