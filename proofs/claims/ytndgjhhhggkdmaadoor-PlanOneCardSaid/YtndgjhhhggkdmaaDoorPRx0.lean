-- made by the kit's print.py for this seat's functions
import Derived.Test.YtndgjhhhggkdmaaDoorProg
import Derived.Below
import Derived.Deep.Draws
import Derived.Deep.AppendLies
import Derived.Maps.AppendAt
import Derived.OwnWalk
import Derived.Laws.BytesArg
import Derived.Laws.MakeOwn
import Derived.Laws.OwnMore
import Derived.Deep.OwnRows
import Derived.Tactics
import Derived.Lib.ConvBytes
import Derived.Laws.Slices
import Derived.WalkKit
import Derived.KernelRfl
import Derived.RowKit3
import Derived.Deep.LoopGhost
import Derived.Deep.QuietTactic
import Derived.BigQuiet
import Derived.WideLaws
import Derived.Deep.DeepCutAuto
import Derived.Deep.CutBlock
import Derived.Deep.RegionHeld3
import Derived.Laws.Rows
import Derived.Lib.AppendStr
import Derived.ArgAppend
import Derived.Laws.IdiomCopy
import Derived.OrdersHeld
import Derived.Laws.BitsLemmas
import Derived.RowKit
import Derived.Test.YtndgjhhhggkdmaaDoorWWords
import Derived.Test.YtndgjhhhggkdmaaDoorWLast
import Derived.Test.YtndgjhhhggkdmaaDoorWTab
import Derived.Test.YtndgjhhhggkdmaaDoorWFour
import Derived.Test.YtndgjhhhggkdmaaDoorWQPut
import Derived.Test.YtndgjhhhggkdmaaDoorWApart
import Derived.Test.YtndgjhhhggkdmaaDoorWArr
import Derived.Test.YtndgjhhhggkdmaaDoorWZeros
import Derived.Test.YtndgjhhhggkdmaaDoorWFoot
import Derived.Test.YtndgjhhhggkdmaaDoorWKept
import Derived.Test.YtndgjhhhggkdmaaDoorWShare
import Derived.Test.YtndgjhhhggkdmaaDoorWN
import Derived.Test.YtndgjhhhggkdmaaDoorWFootNe
import Derived.Test.YtndgjhhhggkdmaaDoorWAt
import Derived.Test.YtndgjhhhggkdmaaDoorWEqStruct
import Derived.Test.YtndgjhhhggkdmaaDoorWRepsOne
import Derived.Test.YtndgjhhhggkdmaaDoorWInv
import Derived.Test.YtndgjhhhggkdmaaDoorWInvWords
import Derived.Test.YtndgjhhhggkdmaaDoorWGuard
import Derived.Test.YtndgjhhhggkdmaaDoorWNEv
import Derived.Test.YtndgjhhhggkdmaaDoorWMore
namespace Go.Proofs.YtndgjhhhggkdmaaDoor.PR
open Go.RowKit Go.Proofs.YtndgjhhhggkdmaaDoorW.PrintWords Go.Proofs.YtndgjhhhggkdmaaDoorW.PrintLast Go.Proofs.YtndgjhhhggkdmaaDoorW.PrintMore
attribute [local go_sem] max2_int min2_int max_two min_two max_three min_three max_four min_four   -- for this text's walks alone
set_option linter.unusedVariables false
set_option linter.unusedSimpArgs false



def errW : Option Int → Value
  | none => .nilIface
  | some c => .iface 0 (.int .i64 c)
theorem errW_none : errW none = .nilIface := rfl
theorem errW_some (c : Int) : errW (some c) = .iface 0 (.int .i64 c) := rfl

theorem info3 : (Tryd.prog.info? 3).map (fun i => (i.zero, i.size, i.bytes)) = some (some (.int .i64 0), 1, 8) := by kernel_rfl
-- the values' own types

end Go.Proofs.YtndgjhhhggkdmaaDoor.PR
