/- Laid by a program of this work (wip/tools/myprint.py): a function's Lean twin and its contract. -/
import Derived.Test.YtenmgimhgdhgmaaProg
import Derived.Below
import Derived.Deep.Draws
import Derived.Deep.AppendLies
import Derived.Maps.AppendAt
import Derived.OwnWalk
import Derived.Laws.BytesArg
import Derived.Laws.MakeOwn
import Derived.Laws.OwnMore
import Derived.Deep.OwnRows
import Derived.Tactics
import Derived.Lib.ConvBytes
import Derived.Laws.Slices
import Derived.WalkKit
import Derived.KernelRfl
import Derived.RowKit3
import Derived.Deep.LoopGhost
import Derived.Deep.QuietTactic
import Derived.BigQuiet
import Derived.WideLaws
import Derived.Deep.DeepCutAuto
import Derived.Deep.CutBlock
import Derived.Deep.RegionHeld3
import Derived.Laws.Rows
import Derived.Lib.AppendStr
import Derived.ArgAppend
import Derived.Laws.IdiomCopy
import Derived.OrdersHeld
import Derived.Laws.BitsLemmas
import Derived.RowKit
import Derived.Test.YtenmgimhgdhgmaaRefArr
import Derived.Test.YtenmgimhgdhgmaaWWords
import Derived.Test.YtenmgimhgdhgmaaWLast
import Derived.Test.YtenmgimhgdhgmaaWTab
import Derived.Test.YtenmgimhgdhgmaaWFour
import Derived.Test.YtenmgimhgdhgmaaWQPut
import Derived.Test.YtenmgimhgdhgmaaWApart
import Derived.Test.YtenmgimhgdhgmaaWArr
import Derived.Test.YtenmgimhgdhgmaaWZeros
import Derived.Test.YtenmgimhgdhgmaaWFoot
import Derived.Test.YtenmgimhgdhgmaaWKept
import Derived.Test.YtenmgimhgdhgmaaWShare
import Derived.Test.YtenmgimhgdhgmaaWN
import Derived.Test.YtenmgimhgdhgmaaWFootNe
import Derived.Test.YtenmgimhgdhgmaaWAt
import Derived.Test.YtenmgimhgdhgmaaWEqStruct
import Derived.Test.YtenmgimhgdhgmaaWRepsOne
import Derived.Test.YtenmgimhgdhgmaaWInv
import Derived.Test.YtenmgimhgdhgmaaWInvWords
import Derived.Test.YtenmgimhgdhgmaaWGuard
import Derived.Test.YtenmgimhgdhgmaaWNEv
import Derived.Test.YtenmgimhgdhgmaaWMore
namespace Go.Proofs.Ytenmgimhgdhgmaa.PC
open Go.RowKit Go.Proofs.Ytenmgimhgdhgmaa.Hand Go.Proofs.YtenmgimhgdhgmaaW.PrintWords Go.Proofs.YtenmgimhgdhgmaaW.PrintLast Go.Proofs.YtenmgimhgdhgmaaW.PrintMore
attribute [local go_sem] max2_int min2_int max_two min_two max_three min_three max_four min_four   -- for this text's walks alone
set_option linter.unusedVariables false
set_option linter.unusedSimpArgs false



def errW : Option Int → Value
  | none => .nilIface
  | some c => .iface 0 (.int .i64 c)
theorem errW_none : errW none = .nilIface := rfl
theorem errW_some (c : Int) : errW (some c) = .iface 0 (.int .i64 c) := rfl

theorem info3 : (Try.prog.info? 3).map (fun i => (i.zero, i.size, i.bytes)) = some (some (.int .i64 0), 1, 8) := by kernel_rfl
theorem info4 : (Try.prog.info? 4).map (fun i => (i.zero, i.size, i.bytes)) = some (some (.bool false), 1, 1) := by kernel_rfl
-- the values' own types

end Go.Proofs.Ytenmgimhgdhgmaa.PC
