-- WRITTEN BY A PROGRAM OF THIS SESSION (wip/tools/xprint.py, over the kit's print.py).
import Derived.Test.YtngkeifkeffkdaaPGx0
import Derived.Test.YtngkeifkeffkdaaPGx1
import Derived.Test.YtngkeifkeffkdaaPGx2
import Derived.Test.YtngkeifkeffkdaaPGx3
import Derived.Test.YtngkeifkeffkdaaPGx4
import Derived.Test.YtngkeifkeffkdaaPGx5
namespace Go.Proofs.Ytngkeifkeffkdaa.PG
open Go.RowKit Go.Proofs.YtngkeifkeffkdaaW.PrintWords Go.Proofs.YtngkeifkeffkdaaW.PrintLast Go.Proofs.YtngkeifkeffkdaaW.PrintMore
attribute [local go_sem] max2_int min2_int max_two min_two max_three min_three max_four min_four   -- for this text's walks alone
set_option linter.unusedVariables false
set_option linter.unusedSimpArgs false

end Go.Proofs.Ytngkeifkeffkdaa.PG
