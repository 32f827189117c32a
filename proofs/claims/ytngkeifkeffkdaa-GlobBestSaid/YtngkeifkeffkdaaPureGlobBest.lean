/- GlobBest: of any keys (at most 20, of 300 bytes together) the one that counts for a text of at most 60 bytes, and what its star stands for, are the document's own answer. For every input; nothing is assumed. -/
import Derived.Test.YtngkeifkeffkdaaGlobPure
namespace Go.Proofs.Ytngkeifkeffkdaa.Pure
open Go.RowKit Go.Proofs.Ytngkeifkeffkdaa.PG Go.Proofs.YtngkeifkeffkdaaW.PrintWords Go.Proofs.YtngkeifkeffkdaaW.PrintLast Go.Proofs.YtngkeifkeffkdaaK Go.Proofs.Ytngkeifkeffkdaa.Glob
theorem GlobBest : gossamerlaw24_GlobBest.Pure := by
  intro ks T h0 h1 h2 h3
  refine Ev.rounds (r := true) ?_
  have wake : ∀ x1 : ByteArray, Ev (fun k => gossamerlaw24_GlobBest.j0 k ks x1 true) true := fun x1 => Ev.step (f := fun _ => some true) (fun k => by simp only [gossamerlaw24_GlobBest.j0]; rfl) (Ev.now _)
  unfold gossamerlaw24_GlobBest.f
  by_cases hl : (ks.length : Int) > 20
  · simp only [hl, if_true]; exact wake T
  · simp only [hl, if_false]
    obtain ⟨v, hv, hs⟩ := long_f ks 300 (by omega) (by omega) (by omega)
    refine Ev.bind hv ?_
    cases v with
    | true => exact wake T
    | false =>
      simp only [Bool.false_eq_true, if_false]
      by_cases ht : (T.size : Int) > 60
      · simp only [ht, decide_true]; exact wake T
      · simp only [ht, decide_false]
        obtain ⟨T, rfl⟩ := S_of T
        rw [size_S] at ht
        have hk : ∀ k ∈ ks, k.size ≤ 400 := fun k hm => by have := hs rfl k hm; omega
        refine Ev.step (f := fun k => (glob_Best.f k ks (S T)).bind fun x => (gossamerref24_Best.f k ks (S T)).bind fun y => (if x.1.toList = y.1.toList then (if x.2.1.toList = y.2.1.toList then (if (x.2.2 == y.2.2) = true then some true else (some false)) else (some false)) else (some false))) (fun k => by simp only [gossamerlaw24_GlobBest.j0]; rfl) ?_
        refine Ev.bind (go_best T (by omega) ks (by omega) hk) (Ev.bind (ref_best T (by omega) ks (by omega) hk) ?_)
        simp only [if_true, BEq.rfl]
        exact Ev.now _
end Go.Proofs.Ytngkeifkeffkdaa.Pure
