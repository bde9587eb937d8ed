-- Written by this workplace's program wip/tools/given.py out of the translation. Not trusted: Lean checks it.
import Derived.Test.YtgdogaehiikngaaProg
import Derived.Below
import Derived.Deep.Draws
import Derived.Deep.AppendLies
import Derived.Maps.AppendAt
import Derived.OwnWalk
import Derived.Laws.BytesArg
import Derived.Laws.MakeOwn
import Derived.Laws.OwnMore
import Derived.Deep.OwnRows
import Derived.Tactics
import Derived.Lib.ConvBytes
import Derived.Laws.Slices
import Derived.WalkKit
import Derived.KernelRfl
import Derived.RowKit3
import Derived.Deep.LoopGhost
import Derived.Deep.QuietTactic
import Derived.BigQuiet
import Derived.WideLaws
import Derived.Deep.DeepCutAuto
import Derived.Deep.CutBlock
import Derived.Deep.RegionHeld3
import Derived.Laws.Rows
import Derived.Lib.AppendStr
import Derived.ArgAppend
import Derived.Laws.IdiomCopy
import Derived.OrdersHeld
import Derived.Laws.BitsLemmas
import Derived.RowKit
import Derived.Test.YtgdogaehiikngaaMF
import Derived.Test.YtgdogaehiikngaaMG
import Derived.Test.YtgdogaehiikngaaWWords
import Derived.Test.YtgdogaehiikngaaWLast
import Derived.Test.YtgdogaehiikngaaWTab
import Derived.Test.YtgdogaehiikngaaWFour
import Derived.Test.YtgdogaehiikngaaWQPut
import Derived.Test.YtgdogaehiikngaaWApart
import Derived.Test.YtgdogaehiikngaaWArr
import Derived.Test.YtgdogaehiikngaaWZeros
import Derived.Test.YtgdogaehiikngaaWFoot
import Derived.Test.YtgdogaehiikngaaWKept
import Derived.Test.YtgdogaehiikngaaWShare
import Derived.Test.YtgdogaehiikngaaWN
import Derived.Test.YtgdogaehiikngaaWFootNe
import Derived.Test.YtgdogaehiikngaaWAt
import Derived.Test.YtgdogaehiikngaaWEqStruct
import Derived.Test.YtgdogaehiikngaaWRepsOne
import Derived.Test.YtgdogaehiikngaaWInv
import Derived.Test.YtgdogaehiikngaaWInvWords
import Derived.Test.YtgdogaehiikngaaWGuard
import Derived.Test.YtgdogaehiikngaaWNEv
import Derived.Test.YtgdogaehiikngaaWMore
namespace Go.Proofs.Ytgdogaehiikngaa.LNatBytes
open Go.RowKit Go.Proofs.YtgdogaehiikngaaW.PrintWords Go.Proofs.YtgdogaehiikngaaW.PrintLast Go.Proofs.YtgdogaehiikngaaW.PrintMore
attribute [local go_sem] max2_int min2_int max_two min_two max_three min_three max_four min_four   -- for this text's walks alone
set_option linter.unusedVariables false
set_option linter.unusedSimpArgs false



def errW : Option Int → Value
  | none => .nilIface
  | some c => .iface 0 (.int .i64 c)
theorem errW_none : errW none = .nilIface := rfl
theorem errW_some (c : Int) : errW (some c) = .iface 0 (.int .i64 c) := rfl

-- the values' own types

end Go.Proofs.Ytgdogaehiikngaa.LNatBytes
