/- SixTells: of any text of at most 80 bytes, what ip6 reads is what the document reads; and what the statement asks besides of ip6 (that an address is read, one is refused, one is shown) is so. For every input; nothing is assumed. -/
import Derived.Test.YtcpfhnodbgojaaaDoorSixDoc
import Derived.Test.YtcpfhnodbgojaaaDoorPFx10
set_option linter.unusedVariables false
set_option linter.unusedSimpArgs false
namespace Go.Proofs.YtcpfhnodbgojaaaDoor.Pure
open Go.RowKit Go.Proofs.YtcpfhnodbgojaaaDoor.PF Go.Proofs.YtcpfhnodbgojaaaDoorW.PrintWords Go.Proofs.YtcpfhnodbgojaaaDoorW.PrintMore Go.Proofs.YtcpfhnodbgojaaaDoorW.PrintLast Go.Proofs.YtcpfhnodbgojaaaDoorK Go.Proofs.YtcpfhnodbgojaaaDoorL Go.Proofs.YtcpfhnodbgojaaaDoor.Six
set_option maxRecDepth 100000 in
theorem awake_40 : gossamerlaw9_awake.f 40 = some true := by kernel_rfl
theorem awake : Ev (fun k => gossamerlaw9_awake.f k) true := Ev.of (g := fun k => gossamerlaw9_awake.f k) (fun k => gossamerlaw9_awake.mono k) awake_40
theorem SixTells : gossamerlaw9_SixTells.Pure := by
  intro a0 h0
  obtain ⟨l, rfl⟩ := S_of a0
  refine Ev.rounds (r := true) ?_
  unfold gossamerlaw9_SixTells.f
  rw [size_S]
  by_cases hl : (l.length : Int) > 80
  · exact Ev.congr (fun k => if_pos hl) (Ev.bind awake (Ev.now _))
  · refine Ev.congr (fun k => if_neg hl) (Ev.bind (go_six fours go_four l (by omega)) (Ev.bind (ref_six l (by omega)) ?_))
    simp only [beq_self_eq_true, Bool.and_self, if_true]
    exact Ev.bind awake (Ev.now _)
end Go.Proofs.YtcpfhnodbgojaaaDoor.Pure
