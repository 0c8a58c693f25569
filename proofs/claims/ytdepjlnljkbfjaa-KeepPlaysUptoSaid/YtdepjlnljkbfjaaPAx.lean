/- Laid by a program of this work (wip/tools/myprint.py): a function's Lean twin and its contract. -/
import Derived.Test.YtdepjlnljkbfjaaPAx0
import Derived.Test.YtdepjlnljkbfjaaPAx1
import Derived.Test.YtdepjlnljkbfjaaPAx2
namespace Go.Proofs.Ytdepjlnljkbfjaa.PA
open Go.RowKit Go Go.Proofs.YtdepjlnljkbfjaaW.PrintWords Go.Proofs.YtdepjlnljkbfjaaW.PrintLast Go.Proofs.YtdepjlnljkbfjaaW.PrintMore
attribute [local go_sem] max2_int min2_int max_two min_two max_three min_three max_four min_four   -- for this text's walks alone
set_option linter.unusedVariables false
set_option linter.unusedSimpArgs false

end Go.Proofs.Ytdepjlnljkbfjaa.PA
