-- written by wip/pp.py: the kit's print with hand-proved callees laid in; Lean checks it
import Derived.Test.YtjabncedfjjbjaaPBasex0
import Derived.Test.YtjabncedfjjbjaaPBasex1
import Derived.Test.YtjabncedfjjbjaaPBasex2
import Derived.Test.YtjabncedfjjbjaaPBasex3
namespace Go.Proofs.Ytjabncedfjjbjaa.PBase
open Go.RowKit Go.Proofs.YtjabncedfjjbjaaW.PrintWords Go.Proofs.YtjabncedfjjbjaaW.PrintLast Go.Proofs.YtjabncedfjjbjaaW.PrintMore
attribute [local go_sem] max2_int min2_int max_two min_two max_three min_three max_four min_four   -- for this text's walks alone
set_option linter.unusedVariables false
set_option linter.unusedSimpArgs false

end Go.Proofs.Ytjabncedfjjbjaa.PBase
