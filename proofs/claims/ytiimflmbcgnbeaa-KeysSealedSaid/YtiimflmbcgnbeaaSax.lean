-- Written by this workplace's program wip/tools/given.py out of the translation. Not trusted: Lean checks it.
import Derived.Test.YtiimflmbcgnbeaaSax0
import Derived.Test.YtiimflmbcgnbeaaSax1
import Derived.Test.YtiimflmbcgnbeaaSax2
namespace Go.Proofs.Ytiimflmbcgnbeaa.Sa
open Go.RowKit Go.Proofs.YtiimflmbcgnbeaaW.PrintWords Go.Proofs.YtiimflmbcgnbeaaW.PrintLast Go.Proofs.YtiimflmbcgnbeaaW.PrintMore
attribute [local go_sem] max2_int min2_int max_two min_two max_three min_three max_four min_four   -- for this text's walks alone
set_option linter.unusedVariables false
set_option linter.unusedSimpArgs false

end Go.Proofs.Ytiimflmbcgnbeaa.Sa
