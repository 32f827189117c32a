/- GlobTells: of any texts of at most 200 bytes together, glob's weight of a key, which of two keys counts, whether a key fits and what stands for its star are the document's own answer. For every input; nothing is assumed. -/
import Derived.Test.YtngkeifkeffkdaaGlobPure
namespace Go.Proofs.Ytngkeifkeffkdaa.Pure
open Go.RowKit Go.Proofs.Ytngkeifkeffkdaa.PG Go.Proofs.YtngkeifkeffkdaaW.PrintWords Go.Proofs.YtngkeifkeffkdaaW.PrintLast Go.Proofs.YtngkeifkeffkdaaK Go.Proofs.Ytngkeifkeffkdaa.Glob
theorem GlobTells : gossamerlaw24_GlobTells.Pure := by
  intro a b T h0 h1 h2
  refine Ev.rounds (r := true) ?_
  unfold gossamerlaw24_GlobTells.f
  obtain ⟨v, hv, hs⟩ := long_f [a, b, T] 200 (by omega) (by omega) (by simp)
  refine Ev.bind hv ?_
  cases v with
  | true => exact Ev.now _
  | false =>
    have ha := hs rfl a (by simp)
    have hb := hs rfl b (by simp)
    have hT := hs rfl T (by simp)
    obtain ⟨T, rfl⟩ := S_of T
    have hT' : T.length ≤ 100000 := by rw [size_S] at hT; omega
    simp only [Bool.false_eq_true, if_false]
    refine Ev.bind (weight_f a (by omega)) (Ev.bind (go_match a T (by omega) hT') (Ev.bind (ref_match a T (by omega) hT') ?_))
    have w0 := globAt_bd a
    have hw : glob_Weight.f a = some (floatOfInt .f64 (globAt a), floatOfInt .f64 (a.size : Int)) := by unfold glob_Weight.f; rw [if_pos (by omega)]
    rw [hw, go_cmp a b (by omega) (by omega)]
    simp only [Option.bind_some]
    rw [float_eq _ _ (by omega) (by omega) (by omega) (by omega), float_eq _ _ (by omega) (by omega) (by omega) (by omega)]
    simp only [decide_true, Bool.and_self, if_true]
    refine Ev.bind (ref_cmp a b (by omega) (by omega)) ?_
    simp only [if_true, BEq.rfl]
    exact Ev.now _
end Go.Proofs.Ytngkeifkeffkdaa.Pure
