/-
  No cell of these rows narrows 'for every input' (looked for: loops, veiled, ifaces, maps, wideKeys, modest, calm, conditions, laid).
  DERIVED. THE GIVEN ROWS OF THIS SEAT. 15 by the template 'for every input the law returns true; each argument reads behind the call as it read before'; 0 by the template 'total and deterministic' (their statements: YtjfhbmbiegccnaaTotals.lean).
  GIVEN WITH THE SEED: the statements are not yours to turn. If you find one false, say at which input.
  Laid BY PROGRAM, IN A SANDBOX (cutbox-rows.mjs): the forced cells as the released guide's own fill.sh prints them over the translation ec2609c6a952e1e1… (all of the seat's roots in one cut). By AI agents, Wed Nov 11 2026. No macro, syntax, notation, axiom, sorry.
-/
import Derived.Test.YtjfhbmbiegccnaaChecked
import GoSem.Claim
import GoSem.ClaimJoined
import GoSem.ClaimMapViews
import Derived.JoinedTies
import Derived.KernelRfl
namespace Go.Proofs.Ytjfhbmbiegccnaa
/- THE CELL 'sum', in the pinned program and in every row, IS THE sha256 OF THE DUMP (.gsa) THAT YtjfhbmbiegccnaaProg.lean LOADS. Nothing in Lean hashes anything: it is a label: what it is worth is what the hold of that sum in a sandbox is worth. -/
noncomputable def Try.pinned : Pinned := { name := "ytjfhbmbiegccnaa", sum := "ec2609c6a952e1e1525ebe764a2d1cf091a78156471805bfc6679d823752aa2e", checked := Try.checked }
namespace Rows
def none {H : Type} : Left H := { results := [], args := [] }

/-- 'laws.FnExactShaBlock': WHATEVER THE INPUT: true; the input reads as it did. -/
def fnExactShaBlockSpec : ChangeSpec := { name := "fnExactShaBlock", fn := fun _ => fun
  | [d1, d2] => { results := [.lit (.bool true)], args := [d1, d2] }
  | _ => none }
def fnExactShaBlockRow : OpenClaim := { program := "ytjfhbmbiegccnaa", sum := "ec2609c6a952e1e1525ebe764a2d1cf091a78156471805bfc6679d823752aa2e", func := "loop.example/g00790/laws.FnExactShaBlock", spec := "fnExactShaBlock", apart := false }
def FnExactShaBlockSaid : Prop := fnExactShaBlockRow.holds Try.pinned (OpenSpec.ofChange fnExactShaBlockSpec)

/-- ITS FALSE NEIGHBOUR: 'it returns false'. Refute it at one input. -/
def fnExactShaBlockWrong : ChangeSpec := { name := "fnExactShaBlock", fn := fun _ => fun
  | [d1, d2] => { results := [.lit (.bool false)], args := [d1, d2] }
  | _ => none }
def FnExactShaBlockWrongFalsely : Prop := fnExactShaBlockRow.holds Try.pinned (OpenSpec.ofChange fnExactShaBlockWrong)

/-- 'laws.FnExactSha': WHATEVER THE INPUT: true; the input reads as it did. -/
def fnExactShaSpec : ChangeSpec := { name := "fnExactSha", fn := fun _ => fun
  | [d] => { results := [.lit (.bool true)], args := [d] }
  | _ => none }
def fnExactShaRow : OpenClaim := { program := "ytjfhbmbiegccnaa", sum := "ec2609c6a952e1e1525ebe764a2d1cf091a78156471805bfc6679d823752aa2e", func := "loop.example/g00790/laws.FnExactSha", spec := "fnExactSha", apart := false }
def FnExactShaSaid : Prop := fnExactShaRow.holds Try.pinned (OpenSpec.ofChange fnExactShaSpec)

/-- ITS FALSE NEIGHBOUR: 'it returns false'. Refute it at one input. -/
def fnExactShaWrong : ChangeSpec := { name := "fnExactSha", fn := fun _ => fun
  | [d] => { results := [.lit (.bool false)], args := [d] }
  | _ => none }
def FnExactShaWrongFalsely : Prop := fnExactShaRow.holds Try.pinned (OpenSpec.ofChange fnExactShaWrong)

/-- 'laws.FnExactLeafHash': WHATEVER THE INPUT: true; the input reads as it did. -/
def fnExactLeafHashSpec : ChangeSpec := { name := "fnExactLeafHash", fn := fun _ => fun
  | [d] => { results := [.lit (.bool true)], args := [d] }
  | _ => none }
def fnExactLeafHashRow : OpenClaim := { program := "ytjfhbmbiegccnaa", sum := "ec2609c6a952e1e1525ebe764a2d1cf091a78156471805bfc6679d823752aa2e", func := "loop.example/g00790/laws.FnExactLeafHash", spec := "fnExactLeafHash", apart := false }
def FnExactLeafHashSaid : Prop := fnExactLeafHashRow.holds Try.pinned (OpenSpec.ofChange fnExactLeafHashSpec)

/-- ITS FALSE NEIGHBOUR: 'it returns false'. Refute it at one input. -/
def fnExactLeafHashWrong : ChangeSpec := { name := "fnExactLeafHash", fn := fun _ => fun
  | [d] => { results := [.lit (.bool false)], args := [d] }
  | _ => none }
def FnExactLeafHashWrongFalsely : Prop := fnExactLeafHashRow.holds Try.pinned (OpenSpec.ofChange fnExactLeafHashWrong)

/-- 'laws.FnExactNodeHash': WHATEVER THE INPUT: true; the input reads as it did. -/
def fnExactNodeHashSpec : ChangeSpec := { name := "fnExactNodeHash", fn := fun _ => fun
  | [d1, d2] => { results := [.lit (.bool true)], args := [d1, d2] }
  | _ => none }
def fnExactNodeHashRow : OpenClaim := { program := "ytjfhbmbiegccnaa", sum := "ec2609c6a952e1e1525ebe764a2d1cf091a78156471805bfc6679d823752aa2e", func := "loop.example/g00790/laws.FnExactNodeHash", spec := "fnExactNodeHash", apart := false }
def FnExactNodeHashSaid : Prop := fnExactNodeHashRow.holds Try.pinned (OpenSpec.ofChange fnExactNodeHashSpec)

/-- ITS FALSE NEIGHBOUR: 'it returns false'. Refute it at one input. -/
def fnExactNodeHashWrong : ChangeSpec := { name := "fnExactNodeHash", fn := fun _ => fun
  | [d1, d2] => { results := [.lit (.bool false)], args := [d1, d2] }
  | _ => none }
def FnExactNodeHashWrongFalsely : Prop := fnExactNodeHashRow.holds Try.pinned (OpenSpec.ofChange fnExactNodeHashWrong)

/-- 'laws.FnExactMacKey': WHATEVER THE INPUT: true; the input reads as it did. -/
def fnExactMacKeySpec : ChangeSpec := { name := "fnExactMacKey", fn := fun _ => fun
  | [d] => { results := [.lit (.bool true)], args := [d] }
  | _ => none }
def fnExactMacKeyRow : OpenClaim := { program := "ytjfhbmbiegccnaa", sum := "ec2609c6a952e1e1525ebe764a2d1cf091a78156471805bfc6679d823752aa2e", func := "loop.example/g00790/laws.FnExactMacKey", spec := "fnExactMacKey", apart := false }
def FnExactMacKeySaid : Prop := fnExactMacKeyRow.holds Try.pinned (OpenSpec.ofChange fnExactMacKeySpec)

/-- ITS FALSE NEIGHBOUR: 'it returns false'. Refute it at one input. -/
def fnExactMacKeyWrong : ChangeSpec := { name := "fnExactMacKey", fn := fun _ => fun
  | [d] => { results := [.lit (.bool false)], args := [d] }
  | _ => none }
def FnExactMacKeyWrongFalsely : Prop := fnExactMacKeyRow.holds Try.pinned (OpenSpec.ofChange fnExactMacKeyWrong)

/-- 'laws.FnExactMacOk': WHATEVER THE INPUT: true; the input reads as it did. -/
def fnExactMacOkSpec : ChangeSpec := { name := "fnExactMacOk", fn := fun _ => fun
  | [d1, d2, d3] => { results := [.lit (.bool true)], args := [d1, d2, d3] }
  | _ => none }
def fnExactMacOkRow : OpenClaim := { program := "ytjfhbmbiegccnaa", sum := "ec2609c6a952e1e1525ebe764a2d1cf091a78156471805bfc6679d823752aa2e", func := "loop.example/g00790/laws.FnExactMacOk", spec := "fnExactMacOk", apart := false }
def FnExactMacOkSaid : Prop := fnExactMacOkRow.holds Try.pinned (OpenSpec.ofChange fnExactMacOkSpec)

/-- ITS FALSE NEIGHBOUR: 'it returns false'. Refute it at one input. -/
def fnExactMacOkWrong : ChangeSpec := { name := "fnExactMacOk", fn := fun _ => fun
  | [d1, d2, d3] => { results := [.lit (.bool false)], args := [d1, d2, d3] }
  | _ => none }
def FnExactMacOkWrongFalsely : Prop := fnExactMacOkRow.holds Try.pinned (OpenSpec.ofChange fnExactMacOkWrong)

/-- 'laws.FnExactMac': WHATEVER THE INPUT: true; the input reads as it did. -/
def fnExactMacSpec : ChangeSpec := { name := "fnExactMac", fn := fun _ => fun
  | [d1, d2] => { results := [.lit (.bool true)], args := [d1, d2] }
  | _ => none }
def fnExactMacRow : OpenClaim := { program := "ytjfhbmbiegccnaa", sum := "ec2609c6a952e1e1525ebe764a2d1cf091a78156471805bfc6679d823752aa2e", func := "loop.example/g00790/laws.FnExactMac", spec := "fnExactMac", apart := false }
def FnExactMacSaid : Prop := fnExactMacRow.holds Try.pinned (OpenSpec.ofChange fnExactMacSpec)

/-- ITS FALSE NEIGHBOUR: 'it returns false'. Refute it at one input. -/
def fnExactMacWrong : ChangeSpec := { name := "fnExactMac", fn := fun _ => fun
  | [d1, d2] => { results := [.lit (.bool false)], args := [d1, d2] }
  | _ => none }
def FnExactMacWrongFalsely : Prop := fnExactMacRow.holds Try.pinned (OpenSpec.ofChange fnExactMacWrong)

/-- 'laws.FnSha': WHATEVER THE INPUT: true; the input reads as it did. -/
def fnShaSpec : ChangeSpec := { name := "fnSha", fn := fun _ => fun
  | [d] => { results := [.lit (.bool true)], args := [d] }
  | _ => none }
def fnShaRow : OpenClaim := { program := "ytjfhbmbiegccnaa", sum := "ec2609c6a952e1e1525ebe764a2d1cf091a78156471805bfc6679d823752aa2e", func := "loop.example/g00790/laws.FnSha", spec := "fnSha", apart := false }
def FnShaSaid : Prop := fnShaRow.holds Try.pinned (OpenSpec.ofChange fnShaSpec)

/-- ITS FALSE NEIGHBOUR: 'it returns false'. Refute it at one input. -/
def fnShaWrong : ChangeSpec := { name := "fnSha", fn := fun _ => fun
  | [d] => { results := [.lit (.bool false)], args := [d] }
  | _ => none }
def FnShaWrongFalsely : Prop := fnShaRow.holds Try.pinned (OpenSpec.ofChange fnShaWrong)

/-- 'laws.FnSplit': WHATEVER THE INPUT: true; the input reads as it did. -/
def fnSplitSpec : ChangeSpec := { name := "fnSplit", fn := fun _ => fun
  | [d] => { results := [.lit (.bool true)], args := [d] }
  | _ => none }
def fnSplitRow : OpenClaim := { program := "ytjfhbmbiegccnaa", sum := "ec2609c6a952e1e1525ebe764a2d1cf091a78156471805bfc6679d823752aa2e", func := "loop.example/g00790/laws.FnSplit", spec := "fnSplit", recurses := true, apart := false }
def FnSplitSaid : Prop := fnSplitRow.holds Try.pinned (OpenSpec.ofChange fnSplitSpec)

/-- ITS FALSE NEIGHBOUR: 'it returns false'. Refute it at one input. -/
def fnSplitWrong : ChangeSpec := { name := "fnSplit", fn := fun _ => fun
  | [d] => { results := [.lit (.bool false)], args := [d] }
  | _ => none }
def FnSplitWrongFalsely : Prop := fnSplitRow.holds Try.pinned (OpenSpec.ofChange fnSplitWrong)

/-- 'laws.FnPath': WHATEVER THE INPUT: true; the input reads as it did. -/
def fnPathSpec : ChangeSpec := { name := "fnPath", fn := fun _ => fun
  | [d] => { results := [.lit (.bool true)], args := [d] }
  | _ => none }
def fnPathRow : OpenClaim := { program := "ytjfhbmbiegccnaa", sum := "ec2609c6a952e1e1525ebe764a2d1cf091a78156471805bfc6679d823752aa2e", func := "loop.example/g00790/laws.FnPath", spec := "fnPath", recurses := true, apart := false }
def FnPathSaid : Prop := fnPathRow.holds Try.pinned (OpenSpec.ofChange fnPathSpec)

/-- ITS FALSE NEIGHBOUR: 'it returns false'. Refute it at one input. -/
def fnPathWrong : ChangeSpec := { name := "fnPath", fn := fun _ => fun
  | [d] => { results := [.lit (.bool false)], args := [d] }
  | _ => none }
def FnPathWrongFalsely : Prop := fnPathRow.holds Try.pinned (OpenSpec.ofChange fnPathWrong)

/-- 'laws.FnStack': WHATEVER THE INPUT: true; the input reads as it did. -/
def fnStackSpec : ChangeSpec := { name := "fnStack", fn := fun _ => fun
  | [d] => { results := [.lit (.bool true)], args := [d] }
  | _ => none }
def fnStackRow : OpenClaim := { program := "ytjfhbmbiegccnaa", sum := "ec2609c6a952e1e1525ebe764a2d1cf091a78156471805bfc6679d823752aa2e", func := "loop.example/g00790/laws.FnStack", spec := "fnStack", recurses := true, apart := false }
def FnStackSaid : Prop := fnStackRow.holds Try.pinned (OpenSpec.ofChange fnStackSpec)

/-- ITS FALSE NEIGHBOUR: 'it returns false'. Refute it at one input. -/
def fnStackWrong : ChangeSpec := { name := "fnStack", fn := fun _ => fun
  | [d] => { results := [.lit (.bool false)], args := [d] }
  | _ => none }
def FnStackWrongFalsely : Prop := fnStackRow.holds Try.pinned (OpenSpec.ofChange fnStackWrong)

/-- 'laws.FnExactTreeRoot': WHATEVER THE INPUT: true; the input reads as it did. -/
def fnExactTreeRootSpec : ChangeSpec := { name := "fnExactTreeRoot", fn := fun _ => fun
  | [d] => { results := [.lit (.bool true)], args := [d] }
  | _ => none }
def fnExactTreeRootRow : OpenClaim := { program := "ytjfhbmbiegccnaa", sum := "ec2609c6a952e1e1525ebe764a2d1cf091a78156471805bfc6679d823752aa2e", func := "loop.example/g00790/laws.FnExactTreeRoot", spec := "fnExactTreeRoot", recurses := true, apart := false }
def FnExactTreeRootSaid : Prop := fnExactTreeRootRow.holds Try.pinned (OpenSpec.ofChange fnExactTreeRootSpec)

/-- ITS FALSE NEIGHBOUR: 'it returns false'. Refute it at one input. -/
def fnExactTreeRootWrong : ChangeSpec := { name := "fnExactTreeRoot", fn := fun _ => fun
  | [d] => { results := [.lit (.bool false)], args := [d] }
  | _ => none }
def FnExactTreeRootWrongFalsely : Prop := fnExactTreeRootRow.holds Try.pinned (OpenSpec.ofChange fnExactTreeRootWrong)

/-- 'laws.FnExactStackRoot': WHATEVER THE INPUT: true; the input reads as it did. -/
def fnExactStackRootSpec : ChangeSpec := { name := "fnExactStackRoot", fn := fun _ => fun
  | [d] => { results := [.lit (.bool true)], args := [d] }
  | _ => none }
def fnExactStackRootRow : OpenClaim := { program := "ytjfhbmbiegccnaa", sum := "ec2609c6a952e1e1525ebe764a2d1cf091a78156471805bfc6679d823752aa2e", func := "loop.example/g00790/laws.FnExactStackRoot", spec := "fnExactStackRoot", apart := false }
def FnExactStackRootSaid : Prop := fnExactStackRootRow.holds Try.pinned (OpenSpec.ofChange fnExactStackRootSpec)

/-- ITS FALSE NEIGHBOUR: 'it returns false'. Refute it at one input. -/
def fnExactStackRootWrong : ChangeSpec := { name := "fnExactStackRoot", fn := fun _ => fun
  | [d] => { results := [.lit (.bool false)], args := [d] }
  | _ => none }
def FnExactStackRootWrongFalsely : Prop := fnExactStackRootRow.holds Try.pinned (OpenSpec.ofChange fnExactStackRootWrong)

/-- 'laws.FnExactStackOf': WHATEVER THE INPUT: true; the input reads as it did. -/
def fnExactStackOfSpec : ChangeSpec := { name := "fnExactStackOf", fn := fun _ => fun
  | [d] => { results := [.lit (.bool true)], args := [d] }
  | _ => none }
def fnExactStackOfRow : OpenClaim := { program := "ytjfhbmbiegccnaa", sum := "ec2609c6a952e1e1525ebe764a2d1cf091a78156471805bfc6679d823752aa2e", func := "loop.example/g00790/laws.FnExactStackOf", spec := "fnExactStackOf", apart := false }
def FnExactStackOfSaid : Prop := fnExactStackOfRow.holds Try.pinned (OpenSpec.ofChange fnExactStackOfSpec)

/-- ITS FALSE NEIGHBOUR: 'it returns false'. Refute it at one input. -/
def fnExactStackOfWrong : ChangeSpec := { name := "fnExactStackOf", fn := fun _ => fun
  | [d] => { results := [.lit (.bool false)], args := [d] }
  | _ => none }
def FnExactStackOfWrongFalsely : Prop := fnExactStackOfRow.holds Try.pinned (OpenSpec.ofChange fnExactStackOfWrong)

/-- 'laws.FnExactStackPush': WHATEVER THE INPUT: true; the input reads as it did. -/
def fnExactStackPushSpec : ChangeSpec := { name := "fnExactStackPush", fn := fun _ => fun
  | [d1, d2] => { results := [.lit (.bool true)], args := [d1, d2] }
  | _ => none }
def fnExactStackPushRow : OpenClaim := { program := "ytjfhbmbiegccnaa", sum := "ec2609c6a952e1e1525ebe764a2d1cf091a78156471805bfc6679d823752aa2e", func := "loop.example/g00790/laws.FnExactStackPush", spec := "fnExactStackPush", apart := false }
def FnExactStackPushSaid : Prop := fnExactStackPushRow.holds Try.pinned (OpenSpec.ofChange fnExactStackPushSpec)

/-- ITS FALSE NEIGHBOUR: 'it returns false'. Refute it at one input. -/
def fnExactStackPushWrong : ChangeSpec := { name := "fnExactStackPush", fn := fun _ => fun
  | [d1, d2] => { results := [.lit (.bool false)], args := [d1, d2] }
  | _ => none }
def FnExactStackPushWrongFalsely : Prop := fnExactStackPushRow.holds Try.pinned (OpenSpec.ofChange fnExactStackPushWrong)

/- THE SECOND FORM. 'bulk': how many values and letters a reading holds, each counted each time it is reached (what is shared counts as often as it is met; a slice's spare places count too). A statement '..UptoSaid' is the law's where the arguments, and the package variables that the reading takes, are together of bulk at most 1048576: NARROWER than '..Said'. Prove '..Said' where nothing that the law and all that it calls make is longer than what came in: it says more and counts as full. Else prove '..UptoSaid'. A law counts once. -/
mutual
def uptoBulk {H : Type} : DataW H → Nat
  | .lit (.string bytes) => bytes.length + 1
  | .lit _ => 1
  | .nil => 1
  | .ptr d => uptoBulk d + 1
  | .slice elems spare => uptoBulkAll elems + uptoBulkAll spare + 1
  | .agg parts => uptoBulkAll parts + 1
  | .iface _ d => uptoBulk d + 1
  | .map entries => uptoBulkEntries entries + 1
  | .held _ => 1
def uptoBulkAll {H : Type} : List (DataW H) → Nat
  | [] => 0
  | d :: r => uptoBulk d + uptoBulkAll r
def uptoBulkEntries {H : Type} : List (Lit × DataW H) → Nat
  | [] => 0
  | x :: r => uptoBulkEntry x + uptoBulkEntries r
def uptoBulkEntry {H : Type} : Lit × DataW H → Nat
  | (.string bytes, d) => bytes.length + uptoBulk d + 1
  | (_, d) => uptoBulk d + 1
 end
def uptoSmall : (H : Type) → List (DataW H) → Bool := fun _ ds => decide (uptoBulkAll ds ≤ 1048576)
def OpenSpec.upto (s : _root_.Go.ChangeSpec) : _root_.Go.OpenSpec := { _root_.Go.OpenSpec.ofChange s with cond := some uptoSmall }

/-- 'laws.FnExactShaBlock', WHERE WHAT IT READS IS OF BULK AT MOST 1048576: true; the input reads as it did. -/
def fnExactShaBlockUptoRow : OpenClaim := { program := "ytjfhbmbiegccnaa", sum := "ec2609c6a952e1e1525ebe764a2d1cf091a78156471805bfc6679d823752aa2e", func := "loop.example/g00790/laws.FnExactShaBlock", spec := "fnExactShaBlock", apart := false, narrowed := true }
def FnExactShaBlockUptoSaid : Prop := fnExactShaBlockUptoRow.holds Try.pinned (OpenSpec.upto fnExactShaBlockSpec)

/-- 'laws.FnExactSha', WHERE WHAT IT READS IS OF BULK AT MOST 1048576: true; the input reads as it did. -/
def fnExactShaUptoRow : OpenClaim := { program := "ytjfhbmbiegccnaa", sum := "ec2609c6a952e1e1525ebe764a2d1cf091a78156471805bfc6679d823752aa2e", func := "loop.example/g00790/laws.FnExactSha", spec := "fnExactSha", apart := false, narrowed := true }
def FnExactShaUptoSaid : Prop := fnExactShaUptoRow.holds Try.pinned (OpenSpec.upto fnExactShaSpec)

/-- 'laws.FnExactLeafHash', WHERE WHAT IT READS IS OF BULK AT MOST 1048576: true; the input reads as it did. -/
def fnExactLeafHashUptoRow : OpenClaim := { program := "ytjfhbmbiegccnaa", sum := "ec2609c6a952e1e1525ebe764a2d1cf091a78156471805bfc6679d823752aa2e", func := "loop.example/g00790/laws.FnExactLeafHash", spec := "fnExactLeafHash", apart := false, narrowed := true }
def FnExactLeafHashUptoSaid : Prop := fnExactLeafHashUptoRow.holds Try.pinned (OpenSpec.upto fnExactLeafHashSpec)

/-- 'laws.FnExactNodeHash', WHERE WHAT IT READS IS OF BULK AT MOST 1048576: true; the input reads as it did. -/
def fnExactNodeHashUptoRow : OpenClaim := { program := "ytjfhbmbiegccnaa", sum := "ec2609c6a952e1e1525ebe764a2d1cf091a78156471805bfc6679d823752aa2e", func := "loop.example/g00790/laws.FnExactNodeHash", spec := "fnExactNodeHash", apart := false, narrowed := true }
def FnExactNodeHashUptoSaid : Prop := fnExactNodeHashUptoRow.holds Try.pinned (OpenSpec.upto fnExactNodeHashSpec)

/-- 'laws.FnExactMacKey', WHERE WHAT IT READS IS OF BULK AT MOST 1048576: true; the input reads as it did. -/
def fnExactMacKeyUptoRow : OpenClaim := { program := "ytjfhbmbiegccnaa", sum := "ec2609c6a952e1e1525ebe764a2d1cf091a78156471805bfc6679d823752aa2e", func := "loop.example/g00790/laws.FnExactMacKey", spec := "fnExactMacKey", apart := false, narrowed := true }
def FnExactMacKeyUptoSaid : Prop := fnExactMacKeyUptoRow.holds Try.pinned (OpenSpec.upto fnExactMacKeySpec)

/-- 'laws.FnExactMacOk', WHERE WHAT IT READS IS OF BULK AT MOST 1048576: true; the input reads as it did. -/
def fnExactMacOkUptoRow : OpenClaim := { program := "ytjfhbmbiegccnaa", sum := "ec2609c6a952e1e1525ebe764a2d1cf091a78156471805bfc6679d823752aa2e", func := "loop.example/g00790/laws.FnExactMacOk", spec := "fnExactMacOk", apart := false, narrowed := true }
def FnExactMacOkUptoSaid : Prop := fnExactMacOkUptoRow.holds Try.pinned (OpenSpec.upto fnExactMacOkSpec)

/-- 'laws.FnExactMac', WHERE WHAT IT READS IS OF BULK AT MOST 1048576: true; the input reads as it did. -/
def fnExactMacUptoRow : OpenClaim := { program := "ytjfhbmbiegccnaa", sum := "ec2609c6a952e1e1525ebe764a2d1cf091a78156471805bfc6679d823752aa2e", func := "loop.example/g00790/laws.FnExactMac", spec := "fnExactMac", apart := false, narrowed := true }
def FnExactMacUptoSaid : Prop := fnExactMacUptoRow.holds Try.pinned (OpenSpec.upto fnExactMacSpec)

/-- 'laws.FnSha', WHERE WHAT IT READS IS OF BULK AT MOST 1048576: true; the input reads as it did. -/
def fnShaUptoRow : OpenClaim := { program := "ytjfhbmbiegccnaa", sum := "ec2609c6a952e1e1525ebe764a2d1cf091a78156471805bfc6679d823752aa2e", func := "loop.example/g00790/laws.FnSha", spec := "fnSha", apart := false, narrowed := true }
def FnShaUptoSaid : Prop := fnShaUptoRow.holds Try.pinned (OpenSpec.upto fnShaSpec)

/-- 'laws.FnSplit', WHERE WHAT IT READS IS OF BULK AT MOST 1048576: true; the input reads as it did. -/
def fnSplitUptoRow : OpenClaim := { program := "ytjfhbmbiegccnaa", sum := "ec2609c6a952e1e1525ebe764a2d1cf091a78156471805bfc6679d823752aa2e", func := "loop.example/g00790/laws.FnSplit", spec := "fnSplit", recurses := true, apart := false, narrowed := true }
def FnSplitUptoSaid : Prop := fnSplitUptoRow.holds Try.pinned (OpenSpec.upto fnSplitSpec)

/-- 'laws.FnPath', WHERE WHAT IT READS IS OF BULK AT MOST 1048576: true; the input reads as it did. -/
def fnPathUptoRow : OpenClaim := { program := "ytjfhbmbiegccnaa", sum := "ec2609c6a952e1e1525ebe764a2d1cf091a78156471805bfc6679d823752aa2e", func := "loop.example/g00790/laws.FnPath", spec := "fnPath", recurses := true, apart := false, narrowed := true }
def FnPathUptoSaid : Prop := fnPathUptoRow.holds Try.pinned (OpenSpec.upto fnPathSpec)

/-- 'laws.FnStack', WHERE WHAT IT READS IS OF BULK AT MOST 1048576: true; the input reads as it did. -/
def fnStackUptoRow : OpenClaim := { program := "ytjfhbmbiegccnaa", sum := "ec2609c6a952e1e1525ebe764a2d1cf091a78156471805bfc6679d823752aa2e", func := "loop.example/g00790/laws.FnStack", spec := "fnStack", recurses := true, apart := false, narrowed := true }
def FnStackUptoSaid : Prop := fnStackUptoRow.holds Try.pinned (OpenSpec.upto fnStackSpec)

/-- 'laws.FnExactTreeRoot', WHERE WHAT IT READS IS OF BULK AT MOST 1048576: true; the input reads as it did. -/
def fnExactTreeRootUptoRow : OpenClaim := { program := "ytjfhbmbiegccnaa", sum := "ec2609c6a952e1e1525ebe764a2d1cf091a78156471805bfc6679d823752aa2e", func := "loop.example/g00790/laws.FnExactTreeRoot", spec := "fnExactTreeRoot", recurses := true, apart := false, narrowed := true }
def FnExactTreeRootUptoSaid : Prop := fnExactTreeRootUptoRow.holds Try.pinned (OpenSpec.upto fnExactTreeRootSpec)

/-- 'laws.FnExactStackRoot', WHERE WHAT IT READS IS OF BULK AT MOST 1048576: true; the input reads as it did. -/
def fnExactStackRootUptoRow : OpenClaim := { program := "ytjfhbmbiegccnaa", sum := "ec2609c6a952e1e1525ebe764a2d1cf091a78156471805bfc6679d823752aa2e", func := "loop.example/g00790/laws.FnExactStackRoot", spec := "fnExactStackRoot", apart := false, narrowed := true }
def FnExactStackRootUptoSaid : Prop := fnExactStackRootUptoRow.holds Try.pinned (OpenSpec.upto fnExactStackRootSpec)

/-- 'laws.FnExactStackOf', WHERE WHAT IT READS IS OF BULK AT MOST 1048576: true; the input reads as it did. -/
def fnExactStackOfUptoRow : OpenClaim := { program := "ytjfhbmbiegccnaa", sum := "ec2609c6a952e1e1525ebe764a2d1cf091a78156471805bfc6679d823752aa2e", func := "loop.example/g00790/laws.FnExactStackOf", spec := "fnExactStackOf", apart := false, narrowed := true }
def FnExactStackOfUptoSaid : Prop := fnExactStackOfUptoRow.holds Try.pinned (OpenSpec.upto fnExactStackOfSpec)

/-- 'laws.FnExactStackPush', WHERE WHAT IT READS IS OF BULK AT MOST 1048576: true; the input reads as it did. -/
def fnExactStackPushUptoRow : OpenClaim := { program := "ytjfhbmbiegccnaa", sum := "ec2609c6a952e1e1525ebe764a2d1cf091a78156471805bfc6679d823752aa2e", func := "loop.example/g00790/laws.FnExactStackPush", spec := "fnExactStackPush", apart := false, narrowed := true }
def FnExactStackPushUptoSaid : Prop := fnExactStackPushUptoRow.holds Try.pinned (OpenSpec.upto fnExactStackPushSpec)

end Rows
end Go.Proofs.Ytjfhbmbiegccnaa
