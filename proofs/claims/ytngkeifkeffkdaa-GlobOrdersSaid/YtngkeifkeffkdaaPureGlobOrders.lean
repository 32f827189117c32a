/- GlobOrders: which of two keys counts is an order (turned about it is turned about, and it goes on), and none counts more just where the weights are one. For every input (at most 120 bytes together; the statement's own bound); nothing is assumed. -/
import Derived.Test.YtngkeifkeffkdaaGlobPure
namespace Go.Proofs.Ytngkeifkeffkdaa.Pure
open Go.RowKit Go.Proofs.Ytngkeifkeffkdaa.PG Go.Proofs.YtngkeifkeffkdaaW.PrintWords Go.Proofs.YtngkeifkeffkdaaW.PrintLast Go.Proofs.YtngkeifkeffkdaaK Go.Proofs.Ytngkeifkeffkdaa.Glob
theorem GlobOrders : gossamerlaw24_GlobOrders.Pure := by
  intro a b c h0 h1 h2
  refine Ev.rounds (r := true) ?_
  unfold gossamerlaw24_GlobOrders.f
  obtain ⟨v, hv, hs⟩ := long_f [a, b, c] 120 (by omega) (by omega) (by simp)
  refine Ev.bind hv ?_
  cases v with
  | true => exact Ev.now _
  | false =>
    have ha := hs rfl a (by simp)
    have hb := hs rfl b (by simp)
    have hc := hs rfl c (by simp)
    simp only [Bool.false_eq_true, if_false]
    have wa := globAt_bd a
    have wb := globAt_bd b
    have hwa : glob_Weight.f a = some (floatOfInt .f64 (globAt a), floatOfInt .f64 (a.size : Int)) := by unfold glob_Weight.f; rw [if_pos (by omega)]
    have hwb : glob_Weight.f b = some (floatOfInt .f64 (globAt b), floatOfInt .f64 (b.size : Int)) := by unfold glob_Weight.f; rw [if_pos (by omega)]
    rw [go_cmp a b (by omega) (by omega), go_cmp b c (by omega) (by omega), go_cmp a c (by omega) (by omega), go_cmp b a (by omega) (by omega), go_cmp a a (by omega) (by omega), hwa, hwb]
    simp only [Option.bind_some]
    rw [float_eq _ _ (by omega) (by omega) (by omega) (by omega), float_eq _ _ (by omega) (by omega) (by omega) (by omega)]
    have e1 : globCmp a b = wrap64 (-globCmp b a) := by
      rw [globCmp_val a b, globCmp_val b a, wrap64_id (by (repeat' split) <;> omega) (by (repeat' split) <;> omega)]
      repeat' split
      all_goals omega
    have e2 : globCmp a a = 0 := by rw [globCmp_val]; simp
    have e3 : ((globCmp a b == 0) == (decide (globAt a = globAt b) && decide ((a.size : Int) = b.size))) = true := by
      rw [globCmp_val, beq_iff_eq, Bool.eq_iff_iff]
      simp only [beq_iff_eq, Bool.and_eq_true, decide_eq_true_eq]
      repeat' split
      all_goals omega
    have e4 : globCmp a b ≤ 0 → globCmp b c ≤ 0 → ¬ globCmp a c > 0 := by
      rw [globCmp_val a b, globCmp_val b c, globCmp_val a c]
      repeat' split
      all_goals omega
    rw [if_pos e1, if_pos e2]
    simp only [e3, if_true]
    by_cases h3 : globCmp a b ≤ 0
    · simp only [h3, if_true]
      by_cases h4 : globCmp b c ≤ 0
      · simp only [h4, if_true, e4 h3 h4, if_false]; exact Ev.now _
      · simp only [h4, if_false]; exact Ev.now _
    · simp only [h3, if_false]; exact Ev.now _
end Go.Proofs.Ytngkeifkeffkdaa.Pure
