/- Laid by a program of this work (wip/tools/myprint.py): a function's Lean twin and its contract. -/
import Derived.Test.YtakomlealclomaaProg
import Derived.Below
import Derived.Deep.Draws
import Derived.Deep.AppendLies
import Derived.Maps.AppendAt
import Derived.OwnWalk
import Derived.Laws.BytesArg
import Derived.Laws.MakeOwn
import Derived.Laws.OwnMore
import Derived.Deep.OwnRows
import Derived.Tactics
import Derived.Lib.ConvBytes
import Derived.Laws.Slices
import Derived.WalkKit
import Derived.KernelRfl
import Derived.RowKit3
import Derived.Deep.LoopGhost
import Derived.Deep.QuietTactic
import Derived.BigQuiet
import Derived.WideLaws
import Derived.Deep.DeepCutAuto
import Derived.Deep.CutBlock
import Derived.Deep.RegionHeld3
import Derived.Laws.Rows
import Derived.Lib.AppendStr
import Derived.ArgAppend
import Derived.Laws.IdiomCopy
import Derived.OrdersHeld
import Derived.Laws.BitsLemmas
import Derived.RowKit
import Derived.Test.YtakomlealclomaaShelf
import Derived.Test.YtakomlealclomaaWWords
import Derived.Test.YtakomlealclomaaWLast
import Derived.Test.YtakomlealclomaaWTab
import Derived.Test.YtakomlealclomaaWFour
import Derived.Test.YtakomlealclomaaWQPut
import Derived.Test.YtakomlealclomaaWApart
import Derived.Test.YtakomlealclomaaWArr
import Derived.Test.YtakomlealclomaaWZeros
import Derived.Test.YtakomlealclomaaWFoot
import Derived.Test.YtakomlealclomaaWKept
import Derived.Test.YtakomlealclomaaWShare
import Derived.Test.YtakomlealclomaaWN
import Derived.Test.YtakomlealclomaaWFootNe
import Derived.Test.YtakomlealclomaaWAt
import Derived.Test.YtakomlealclomaaWEqStruct
import Derived.Test.YtakomlealclomaaWRepsOne
import Derived.Test.YtakomlealclomaaWInv
import Derived.Test.YtakomlealclomaaWInvWords
import Derived.Test.YtakomlealclomaaWGuard
import Derived.Test.YtakomlealclomaaWNEv
import Derived.Test.YtakomlealclomaaWMore
namespace Go.Proofs.Ytakomlealclomaa.PA
open Go.RowKit Go Go.Proofs.YtakomlealclomaaW.PrintWords Go.Proofs.YtakomlealclomaaW.PrintLast Go.Proofs.YtakomlealclomaaW.PrintMore
attribute [local go_sem] max2_int min2_int max_two min_two max_three min_three max_four min_four   -- for this text's walks alone
set_option linter.unusedVariables false
set_option linter.unusedSimpArgs false



def errW : Option Int → Value
  | none => .nilIface
  | some c => .iface 0 (.int .i64 c)
theorem errW_none : errW none = .nilIface := rfl
theorem errW_some (c : Int) : errW (some c) = .iface 0 (.int .i64 c) := rfl

-- the values' own types

end Go.Proofs.Ytakomlealclomaa.PA
