/- Walks of the functions that the law reaches, a contract for each (written by a program, after the kit's print, with the functions whose contracts are proved by hand). No conditions but those typed. -/
import Derived.Test.YtmjbfnolfkfnjaaProg
import Derived.Below
import Derived.Deep.Draws
import Derived.Deep.AppendLies
import Derived.Maps.AppendAt
import Derived.OwnWalk
import Derived.Laws.BytesArg
import Derived.Laws.MakeOwn
import Derived.Laws.OwnMore
import Derived.Deep.OwnRows
import Derived.Tactics
import Derived.Lib.ConvBytes
import Derived.Laws.Slices
import Derived.WalkKit
import Derived.KernelRfl
import Derived.RowKit3
import Derived.Deep.LoopGhost
import Derived.Deep.QuietTactic
import Derived.BigQuiet
import Derived.WideLaws
import Derived.Deep.DeepCutAuto
import Derived.Deep.CutBlock
import Derived.Deep.RegionHeld3
import Derived.Laws.Rows
import Derived.Lib.AppendStr
import Derived.ArgAppend
import Derived.Laws.IdiomCopy
import Derived.OrdersHeld
import Derived.Laws.BitsLemmas
import Derived.RowKit
import Derived.Test.YtmjbfnolfkfnjaaWWords
import Derived.Test.YtmjbfnolfkfnjaaWLast
import Derived.Test.YtmjbfnolfkfnjaaWTab
import Derived.Test.YtmjbfnolfkfnjaaWFour
import Derived.Test.YtmjbfnolfkfnjaaWQPut
import Derived.Test.YtmjbfnolfkfnjaaWApart
import Derived.Test.YtmjbfnolfkfnjaaWArr
import Derived.Test.YtmjbfnolfkfnjaaWZeros
import Derived.Test.YtmjbfnolfkfnjaaWFoot
import Derived.Test.YtmjbfnolfkfnjaaWKept
import Derived.Test.YtmjbfnolfkfnjaaWShare
import Derived.Test.YtmjbfnolfkfnjaaWN
import Derived.Test.YtmjbfnolfkfnjaaWFootNe
import Derived.Test.YtmjbfnolfkfnjaaWAt
import Derived.Test.YtmjbfnolfkfnjaaWEqStruct
import Derived.Test.YtmjbfnolfkfnjaaWRepsOne
import Derived.Test.YtmjbfnolfkfnjaaWInv
import Derived.Test.YtmjbfnolfkfnjaaWInvWords
import Derived.Test.YtmjbfnolfkfnjaaWGuard
import Derived.Test.YtmjbfnolfkfnjaaWNEv
import Derived.Test.YtmjbfnolfkfnjaaWMore
namespace Go.Proofs.Ytmjbfnolfkfnjaa.QFnExactBitsAnd
open Go.RowKit Go.Proofs.YtmjbfnolfkfnjaaW.PrintWords Go.Proofs.YtmjbfnolfkfnjaaW.PrintLast Go.Proofs.YtmjbfnolfkfnjaaW.PrintMore
attribute [local go_sem] max2_int min2_int max_two min_two max_three min_three max_four min_four   -- for this text's walks alone
set_option linter.unusedVariables false
set_option linter.unusedSimpArgs false



def errW : Option Int → Value
  | none => .nilIface
  | some c => .iface 0 (.int .i64 c)
theorem errW_none : errW none = .nilIface := rfl
theorem errW_some (c : Int) : errW (some c) = .iface 0 (.int .i64 c) := rfl

theorem info5 : (Try.prog.info? 5).map (fun i => (i.zero, i.size, i.bytes)) = some (some (.int .u8 0), 1, 1) := by kernel_rfl
-- the values' own types

end Go.Proofs.Ytmjbfnolfkfnjaa.QFnExactBitsAnd
