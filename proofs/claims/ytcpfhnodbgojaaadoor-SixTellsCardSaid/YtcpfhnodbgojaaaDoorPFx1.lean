-- WRITTEN BY A PROGRAM OF THIS SESSION (wip/tools/xprint.py, over the kit's print.py).
import Derived.Test.YtcpfhnodbgojaaaDoorPFx0
namespace Go.Proofs.YtcpfhnodbgojaaaDoor.PF
open Go.RowKit Go.Proofs.YtcpfhnodbgojaaaDoorW.PrintWords Go.Proofs.YtcpfhnodbgojaaaDoorW.PrintLast Go.Proofs.YtcpfhnodbgojaaaDoorW.PrintMore Go.Proofs.YtcpfhnodbgojaaaDoorE
attribute [local go_sem] max2_int min2_int max_two min_two max_three min_three max_four min_four   -- for this text's walks alone
set_option linter.unusedVariables false
set_option linter.unusedSimpArgs false

theorem eqA24 (d : Nat) (w : World) (x0 y0 : Int) (x1 y1 : Int) (x2 y2 : Int) (x3 y3 : Int) (x4 y4 : Int) (x5 y5 : Int) (x6 y6 : Int) (x7 y7 : Int) :
    (Op.equalIn (d + 2) 24 (.agg #[.int .u16 x0, .int .u16 x1, .int .u16 x2, .int .u16 x3, .int .u16 x4, .int .u16 x5, .int .u16 x6, .int .u16 x7]) (.agg #[.int .u16 y0, .int .u16 y1, .int .u16 y2, .int .u16 y3, .int .u16 y4, .int .u16 y5, .int .u16 y6, .int .u16 y7])).run Tryd.prog w = .ok (x0 == y0 && (x1 == y1 && (x2 == y2 && (x3 == y3 && (x4 == y4 && (x5 == y5 && (x6 == y6 && (x7 == y7)))))))) w := by
  rw [Go.run_equalIn_array (P := Tryd.prog) (w := w) (d + 1) _ _ Tryd.underlying24 (i := (Tryd.prog.info? 23).get (by kernel_rfl)) (by kernel_rfl)]
  rw [show Tryd.prog.cellsOf 23 = 1 by kernel_rfl, show List.range 8 = [0, 1, 2, 3, 4, 5, 6, 7] from rfl]
  refine eqi_cons (by go_simp; rfl) (by go_simp; rfl) (by go_simp) ?_
  refine eqi_cons (by go_simp; rfl) (by go_simp; rfl) (by go_simp) ?_
  refine eqi_cons (by go_simp; rfl) (by go_simp; rfl) (by go_simp) ?_
  refine eqi_cons (by go_simp; rfl) (by go_simp; rfl) (by go_simp) ?_
  refine eqi_cons (by go_simp; rfl) (by go_simp; rfl) (by go_simp) ?_
  refine eqi_cons (by go_simp; rfl) (by go_simp; rfl) (by go_simp) ?_
  refine eqi_cons (by go_simp; rfl) (by go_simp; rfl) (by go_simp) ?_
  exact eqi_last (by go_simp; rfl) (by go_simp; rfl) (by go_simp)
end Go.Proofs.YtcpfhnodbgojaaaDoor.PF
