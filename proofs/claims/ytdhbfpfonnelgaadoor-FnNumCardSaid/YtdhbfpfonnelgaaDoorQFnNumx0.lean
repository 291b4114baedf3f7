/- Walks of the functions that the law reaches, a contract for each (written by a program, after the kit's print, with the functions whose contracts are proved by hand). No conditions but those typed. -/
import Derived.Test.YtdhbfpfonnelgaaDoorProg
import Derived.Below
import Derived.Deep.Draws
import Derived.Deep.AppendLies
import Derived.Maps.AppendAt
import Derived.OwnWalk
import Derived.Laws.BytesArg
import Derived.Laws.MakeOwn
import Derived.Laws.OwnMore
import Derived.Deep.OwnRows
import Derived.Tactics
import Derived.Lib.ConvBytes
import Derived.Laws.Slices
import Derived.WalkKit
import Derived.KernelRfl
import Derived.RowKit3
import Derived.Deep.LoopGhost
import Derived.Deep.QuietTactic
import Derived.BigQuiet
import Derived.WideLaws
import Derived.Deep.DeepCutAuto
import Derived.Deep.CutBlock
import Derived.Deep.RegionHeld3
import Derived.Laws.Rows
import Derived.Lib.AppendStr
import Derived.ArgAppend
import Derived.Laws.IdiomCopy
import Derived.OrdersHeld
import Derived.Laws.BitsLemmas
import Derived.RowKit
import Derived.Test.YtdhbfpfonnelgaaDoorShelf
import Derived.Test.YtdhbfpfonnelgaaDoorNumD2
import Derived.Test.YtdhbfpfonnelgaaDoorWWords
import Derived.Test.YtdhbfpfonnelgaaDoorWLast
import Derived.Test.YtdhbfpfonnelgaaDoorWTab
import Derived.Test.YtdhbfpfonnelgaaDoorWFour
import Derived.Test.YtdhbfpfonnelgaaDoorWQPut
import Derived.Test.YtdhbfpfonnelgaaDoorWApart
import Derived.Test.YtdhbfpfonnelgaaDoorWArr
import Derived.Test.YtdhbfpfonnelgaaDoorWZeros
import Derived.Test.YtdhbfpfonnelgaaDoorWFoot
import Derived.Test.YtdhbfpfonnelgaaDoorWKept
import Derived.Test.YtdhbfpfonnelgaaDoorWShare
import Derived.Test.YtdhbfpfonnelgaaDoorWN
import Derived.Test.YtdhbfpfonnelgaaDoorWFootNe
import Derived.Test.YtdhbfpfonnelgaaDoorWAt
import Derived.Test.YtdhbfpfonnelgaaDoorWEqStruct
import Derived.Test.YtdhbfpfonnelgaaDoorWRepsOne
import Derived.Test.YtdhbfpfonnelgaaDoorWInv
import Derived.Test.YtdhbfpfonnelgaaDoorWInvWords
import Derived.Test.YtdhbfpfonnelgaaDoorWGuard
import Derived.Test.YtdhbfpfonnelgaaDoorWNEv
import Derived.Test.YtdhbfpfonnelgaaDoorWMore
namespace Go.Proofs.YtdhbfpfonnelgaaDoor.QFnNum
open Go.RowKit Go.Proofs.YtdhbfpfonnelgaaDoorW.PrintWords Go.Proofs.YtdhbfpfonnelgaaDoorW.PrintLast Go.Proofs.YtdhbfpfonnelgaaDoorW.PrintMore
attribute [local go_sem] max2_int min2_int max_two min_two max_three min_three max_four min_four   -- for this text's walks alone
set_option linter.unusedVariables false
set_option linter.unusedSimpArgs false



def errW : Option Int → Value
  | none => .nilIface
  | some c => .iface 61 (.int .i64 c)
theorem errW_none : errW none = .nilIface := rfl
theorem errW_some (c : Int) : errW (some c) = .iface 61 (.int .i64 c) := rfl

theorem info5 : (Tryd.prog.info? 5).map (fun i => (i.zero, i.size, i.bytes)) = some (some (.int .u8 0), 1, 1) := by kernel_rfl
-- the values' own types

end Go.Proofs.YtdhbfpfonnelgaaDoor.QFnNum
