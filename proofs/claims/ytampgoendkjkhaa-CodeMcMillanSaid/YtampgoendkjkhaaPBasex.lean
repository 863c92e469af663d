-- written by wip/pp.py: the kit's print with hand-proved callees laid in; Lean checks it
import Derived.Test.YtampgoendkjkhaaPBasex0
import Derived.Test.YtampgoendkjkhaaPBasex1
import Derived.Test.YtampgoendkjkhaaPBasex2
import Derived.Test.YtampgoendkjkhaaPBasex3
namespace Go.Proofs.Ytampgoendkjkhaa.PBase
open Go.RowKit Go.Proofs.YtampgoendkjkhaaW.PrintWords Go.Proofs.YtampgoendkjkhaaW.PrintLast Go.Proofs.YtampgoendkjkhaaW.PrintMore
attribute [local go_sem] max2_int min2_int max_two min_two max_three min_three max_four min_four   -- for this text's walks alone
set_option linter.unusedVariables false
set_option linter.unusedSimpArgs false

end Go.Proofs.Ytampgoendkjkhaa.PBase
