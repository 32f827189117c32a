-- WRITTEN BY A PROGRAM OF THIS SESSION (wip/tools/xprint.py, over the kit's print.py).
import Derived.Test.YtcpfhnodbgojaaaDoorPFx0
import Derived.Test.YtcpfhnodbgojaaaDoorPFx1
import Derived.Test.YtcpfhnodbgojaaaDoorPFx2
import Derived.Test.YtcpfhnodbgojaaaDoorPFx3
import Derived.Test.YtcpfhnodbgojaaaDoorPFx4
import Derived.Test.YtcpfhnodbgojaaaDoorPFx5
import Derived.Test.YtcpfhnodbgojaaaDoorPFx6
import Derived.Test.YtcpfhnodbgojaaaDoorPFx7
import Derived.Test.YtcpfhnodbgojaaaDoorPFx8
import Derived.Test.YtcpfhnodbgojaaaDoorPFx9
import Derived.Test.YtcpfhnodbgojaaaDoorPFx10
namespace Go.Proofs.YtcpfhnodbgojaaaDoor.PF
open Go.RowKit Go.Proofs.YtcpfhnodbgojaaaDoorW.PrintWords Go.Proofs.YtcpfhnodbgojaaaDoorW.PrintLast Go.Proofs.YtcpfhnodbgojaaaDoorW.PrintMore Go.Proofs.YtcpfhnodbgojaaaDoorE
attribute [local go_sem] max2_int min2_int max_two min_two max_three min_three max_four min_four   -- for this text's walks alone
set_option linter.unusedVariables false
set_option linter.unusedSimpArgs false

end Go.Proofs.YtcpfhnodbgojaaaDoor.PF
