-- WRITTEN BY A PROGRAM OF THIS SESSION (wip/tools/xprint.py, over the kit's print.py).
import Derived.Test.YthnlgnnodgeneaaDoorPFx0
import Derived.Test.YthnlgnnodgeneaaDoorPFx1
import Derived.Test.YthnlgnnodgeneaaDoorPFx2
import Derived.Test.YthnlgnnodgeneaaDoorPFx3
import Derived.Test.YthnlgnnodgeneaaDoorPFx4
import Derived.Test.YthnlgnnodgeneaaDoorPFx5
import Derived.Test.YthnlgnnodgeneaaDoorPFx6
import Derived.Test.YthnlgnnodgeneaaDoorPFx7
import Derived.Test.YthnlgnnodgeneaaDoorPFx8
import Derived.Test.YthnlgnnodgeneaaDoorPFx9
namespace Go.Proofs.YthnlgnnodgeneaaDoor.PF
open Go.RowKit Go.Proofs.YthnlgnnodgeneaaDoorW.PrintWords Go.Proofs.YthnlgnnodgeneaaDoorW.PrintLast Go.Proofs.YthnlgnnodgeneaaDoorW.PrintMore Go.Proofs.YthnlgnnodgeneaaDoorE
attribute [local go_sem] max2_int min2_int max_two min_two max_three min_three max_four min_four   -- for this text's walks alone
set_option linter.unusedVariables false
set_option linter.unusedSimpArgs false

end Go.Proofs.YthnlgnnodgeneaaDoor.PF
