/- Laid by a program of this repo (wip/myprint.py) out of the print of the loaded program: for each Go function a function with the same answers, and the proof that the Go code comes to these; in a row: the law holds for every input. -/
import Derived.Test.YtadgagndfmdjmaaProg
import Derived.Below
import Derived.Deep.Draws
import Derived.Deep.AppendLies
import Derived.Maps.AppendAt
import Derived.OwnWalk
import Derived.Laws.BytesArg
import Derived.Laws.MakeOwn
import Derived.Laws.OwnMore
import Derived.Deep.OwnRows
import Derived.Tactics
import Derived.Lib.ConvBytes
import Derived.Laws.Slices
import Derived.WalkKit
import Derived.KernelRfl
import Derived.RowKit3
import Derived.Deep.LoopGhost
import Derived.Deep.QuietTactic
import Derived.BigQuiet
import Derived.WideLaws
import Derived.Deep.DeepCutAuto
import Derived.Deep.CutBlock
import Derived.Deep.RegionHeld3
import Derived.Laws.Rows
import Derived.Lib.AppendStr
import Derived.ArgAppend
import Derived.Laws.IdiomCopy
import Derived.OrdersHeld
import Derived.Laws.BitsLemmas
import Derived.RowKit
import Derived.Test.YtadgagndfmdjmaaWWords
import Derived.Test.YtadgagndfmdjmaaWLast
import Derived.Test.YtadgagndfmdjmaaWTab
import Derived.Test.YtadgagndfmdjmaaWFour
import Derived.Test.YtadgagndfmdjmaaWQPut
import Derived.Test.YtadgagndfmdjmaaWApart
import Derived.Test.YtadgagndfmdjmaaWArr
import Derived.Test.YtadgagndfmdjmaaWZeros
import Derived.Test.YtadgagndfmdjmaaWFoot
import Derived.Test.YtadgagndfmdjmaaWKept
import Derived.Test.YtadgagndfmdjmaaWShare
import Derived.Test.YtadgagndfmdjmaaWN
import Derived.Test.YtadgagndfmdjmaaWFootNe
import Derived.Test.YtadgagndfmdjmaaWAt
import Derived.Test.YtadgagndfmdjmaaWEqStruct
import Derived.Test.YtadgagndfmdjmaaWRepsOne
import Derived.Test.YtadgagndfmdjmaaWInv
import Derived.Test.YtadgagndfmdjmaaWInvWords
import Derived.Test.YtadgagndfmdjmaaWGuard
import Derived.Test.YtadgagndfmdjmaaWNEv
import Derived.Test.YtadgagndfmdjmaaWMore
namespace Go.Proofs.Ytadgagndfmdjmaa.MFi
open Go.RowKit Go.Proofs.YtadgagndfmdjmaaW.PrintWords Go.Proofs.YtadgagndfmdjmaaW.PrintLast Go.Proofs.YtadgagndfmdjmaaW.PrintMore
attribute [local go_sem] max2_int min2_int max_two min_two max_three min_three max_four min_four   -- for this text's walks alone
set_option linter.unusedVariables false
set_option linter.unusedSimpArgs false



def errW : Option Int → Value
  | none => .nilIface
  | some c => .iface 0 (.int .i64 c)
theorem errW_none : errW none = .nilIface := rfl
theorem errW_some (c : Int) : errW (some c) = .iface 0 (.int .i64 c) := rfl

-- the values' own types

end Go.Proofs.Ytadgagndfmdjmaa.MFi
