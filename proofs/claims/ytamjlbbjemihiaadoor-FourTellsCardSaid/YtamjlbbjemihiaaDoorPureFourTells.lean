/- FourTells: of any text of at most 80 bytes, ip4.Parse and ip4.Ends are the document's own answers (a longer one is only asked whether the law still tells right from wrong). For every input; nothing is assumed. -/
import Derived.Test.YtamjlbbjemihiaaDoorFourPure
namespace Go.Proofs.YtamjlbbjemihiaaDoor.Pure
open Go.RowKit Go.Proofs.YtamjlbbjemihiaaDoor.PF Go.Proofs.YtamjlbbjemihiaaDoorW.PrintWords Go.Proofs.YtamjlbbjemihiaaDoorW.PrintLast Go.Proofs.YtamjlbbjemihiaaDoorK Go.Proofs.YtamjlbbjemihiaaDoor.Four
theorem FourTells : gossamerlaw8_FourTells.Pure := by
  intro a h0
  refine Ev.rounds (r := true) ?_
  unfold gossamerlaw8_FourTells.f
  by_cases hs : (a.size : Int) > 80
  · simp only [hs, if_true]
    exact Ev.bind awake (Ev.now _)
  · simp only [hs, if_false]
    obtain ⟨l, rfl⟩ := S_of a
    rw [size_S] at hs
    refine Ev.bind (go_parse l (by omega)) (Ev.bind (ref_parse l (by omega)) ?_)
    simp only [BEq.rfl, if_true]
    refine Ev.bind (go_ends l (by omega)) (Ev.bind (ref_ends l (by omega)) ?_)
    simp only [BEq.rfl, if_true]
    exact Ev.bind awake (Ev.now _)
end Go.Proofs.YtamjlbbjemihiaaDoor.Pure
