/- Laid by a program of this work (wip/tools/myprint.py): a function's Lean twin and its contract. -/
import Derived.Test.YtaghcepochjoeaaPAx0
import Derived.Test.YtaghcepochjoeaaPAx1
import Derived.Test.YtaghcepochjoeaaPAx2
import Derived.Test.YtaghcepochjoeaaPAx3
namespace Go.Proofs.Ytaghcepochjoeaa.PA
open Go.RowKit Go Go.Proofs.YtaghcepochjoeaaW.PrintWords Go.Proofs.YtaghcepochjoeaaW.PrintLast Go.Proofs.YtaghcepochjoeaaW.PrintMore
attribute [local go_sem] max2_int min2_int max_two min_two max_three min_three max_four min_four   -- for this text's walks alone
set_option linter.unusedVariables false
set_option linter.unusedSimpArgs false

end Go.Proofs.Ytaghcepochjoeaa.PA
