/- Laid by a program of this work (wip/tools/myprint.py): a function's Lean twin and its contract. -/
import Derived.Test.YtdbjbeebjigofaaProg
import Derived.Below
import Derived.Deep.Draws
import Derived.Deep.AppendLies
import Derived.Maps.AppendAt
import Derived.OwnWalk
import Derived.Laws.BytesArg
import Derived.Laws.MakeOwn
import Derived.Laws.OwnMore
import Derived.Deep.OwnRows
import Derived.Tactics
import Derived.Lib.ConvBytes
import Derived.Laws.Slices
import Derived.WalkKit
import Derived.KernelRfl
import Derived.RowKit3
import Derived.Deep.LoopGhost
import Derived.Deep.QuietTactic
import Derived.BigQuiet
import Derived.WideLaws
import Derived.Deep.DeepCutAuto
import Derived.Deep.CutBlock
import Derived.Deep.RegionHeld3
import Derived.Laws.Rows
import Derived.Lib.AppendStr
import Derived.ArgAppend
import Derived.Laws.IdiomCopy
import Derived.OrdersHeld
import Derived.Laws.BitsLemmas
import Derived.RowKit
import Derived.Test.YtdbjbeebjigofaaRefArr
import Derived.Test.YtdbjbeebjigofaaWWords
import Derived.Test.YtdbjbeebjigofaaWLast
import Derived.Test.YtdbjbeebjigofaaWTab
import Derived.Test.YtdbjbeebjigofaaWFour
import Derived.Test.YtdbjbeebjigofaaWQPut
import Derived.Test.YtdbjbeebjigofaaWApart
import Derived.Test.YtdbjbeebjigofaaWArr
import Derived.Test.YtdbjbeebjigofaaWZeros
import Derived.Test.YtdbjbeebjigofaaWFoot
import Derived.Test.YtdbjbeebjigofaaWKept
import Derived.Test.YtdbjbeebjigofaaWShare
import Derived.Test.YtdbjbeebjigofaaWN
import Derived.Test.YtdbjbeebjigofaaWFootNe
import Derived.Test.YtdbjbeebjigofaaWAt
import Derived.Test.YtdbjbeebjigofaaWEqStruct
import Derived.Test.YtdbjbeebjigofaaWRepsOne
import Derived.Test.YtdbjbeebjigofaaWInv
import Derived.Test.YtdbjbeebjigofaaWInvWords
import Derived.Test.YtdbjbeebjigofaaWGuard
import Derived.Test.YtdbjbeebjigofaaWNEv
import Derived.Test.YtdbjbeebjigofaaWMore
namespace Go.Proofs.Ytdbjbeebjigofaa.PT
open Go.RowKit Go.Proofs.Ytdbjbeebjigofaa.Hand Go.Proofs.YtdbjbeebjigofaaW.PrintWords Go.Proofs.YtdbjbeebjigofaaW.PrintLast Go.Proofs.YtdbjbeebjigofaaW.PrintMore
attribute [local go_sem] max2_int min2_int max_two min_two max_three min_three max_four min_four   -- for this text's walks alone
set_option linter.unusedVariables false
set_option linter.unusedSimpArgs false



def errW : Option Int → Value
  | none => .nilIface
  | some c => .iface 0 (.int .i64 c)
theorem errW_none : errW none = .nilIface := rfl
theorem errW_some (c : Int) : errW (some c) = .iface 0 (.int .i64 c) := rfl

theorem info3 : (Try.prog.info? 3).map (fun i => (i.zero, i.size, i.bytes)) = some (some (.int .i64 0), 1, 8) := by kernel_rfl
-- the values' own types

end Go.Proofs.Ytdbjbeebjigofaa.PT
