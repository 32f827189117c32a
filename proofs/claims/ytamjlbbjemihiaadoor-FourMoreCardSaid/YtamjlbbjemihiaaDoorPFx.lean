-- WRITTEN BY A PROGRAM OF THIS SESSION (wip/tools/xprint.py, over the kit's print.py).
import Derived.Test.YtamjlbbjemihiaaDoorPFx0
import Derived.Test.YtamjlbbjemihiaaDoorPFx1
import Derived.Test.YtamjlbbjemihiaaDoorPFx2
import Derived.Test.YtamjlbbjemihiaaDoorPFx3
import Derived.Test.YtamjlbbjemihiaaDoorPFx4
import Derived.Test.YtamjlbbjemihiaaDoorPFx5
import Derived.Test.YtamjlbbjemihiaaDoorPFx6
import Derived.Test.YtamjlbbjemihiaaDoorPFx7
import Derived.Test.YtamjlbbjemihiaaDoorPFx8
import Derived.Test.YtamjlbbjemihiaaDoorPFx9
namespace Go.Proofs.YtamjlbbjemihiaaDoor.PF
open Go.RowKit Go.Proofs.YtamjlbbjemihiaaDoorW.PrintWords Go.Proofs.YtamjlbbjemihiaaDoorW.PrintLast Go.Proofs.YtamjlbbjemihiaaDoorW.PrintMore Go.Proofs.YtamjlbbjemihiaaDoorE
attribute [local go_sem] max2_int min2_int max_two min_two max_three min_three max_four min_four   -- for this text's walks alone
set_option linter.unusedVariables false
set_option linter.unusedSimpArgs false

end Go.Proofs.YtamjlbbjemihiaaDoor.PF
