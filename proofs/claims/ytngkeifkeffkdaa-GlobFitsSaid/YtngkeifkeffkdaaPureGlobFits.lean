/- GlobFits: a pattern fits just what stands ahead of its star, anything of a byte and more, and what stands behind; and that is told; one of two stars or none fits nothing. For every input (at most 120 bytes together, the outer ones without a star; the statement's own bounds); nothing is assumed. -/
import Derived.Test.YtngkeifkeffkdaaGlobPure
namespace Go.Proofs.Ytngkeifkeffkdaa.Pure
open Go.RowKit Go.Proofs.Ytngkeifkeffkdaa.PG Go.Proofs.YtngkeifkeffkdaaW.PrintWords Go.Proofs.YtngkeifkeffkdaaW.PrintLast Go.Proofs.YtngkeifkeffkdaaK Go.Proofs.Ytngkeifkeffkdaa.Glob
theorem fits_loop (a t b : List UInt8) (la : a.length ≤ 200) (lt : t.length ≤ 200) (lb : b.length ≤ 200) (r : List UInt8) : ∀ p : List UInt8, p ++ r = a ++ b → (42 : UInt8) ∉ p →
    Ev (fun k => gossamerlaw24_GlobFits.l0 k (S a) (S t) (S b) (p.length : Int)) true := by
  induction r with
  | nil =>
    intro p hp hn
    rw [List.append_nil] at hp
    have na : (42 : UInt8) ∉ a := fun h => hn (by rw [hp]; simp [h])
    have nb : (42 : UInt8) ∉ b := fun h => hn (by rw [hp]; simp [h])
    have e1 : (S a ++ (⟨#[42]⟩ : ByteArray)) ++ S b = S (a ++ 42 :: b) := by rw [show (⟨#[42]⟩ : ByteArray) = S [42] from rfl, append_S, append_S]; simp
    have e2 : (S a ++ S t) ++ S b = S (a ++ t ++ b) := by rw [append_S, append_S]
    have e3 : (S a ++ (⟨#[42, 42]⟩ : ByteArray)) ++ S b = S (a ++ 42 :: (42 :: b)) := by rw [show (⟨#[42, 42]⟩ : ByteArray) = S [42, 42] from rfl, append_S, append_S]; simp
    have m1 := match_some (a := a) (b := b) (a ++ t ++ b) na (by simp; omega) (by simp; omega)
    have m2 := match_some (a := a) (b := 42 :: b) (a ++ t ++ b) na (by simp; omega) (by simp; omega)
    have m3 := match_none (K := a ++ b) (a ++ b) (by simp [na, nb])
    have g2 : gmv a (42 :: b) (a ++ t ++ b) = (S [], false) := by unfold gmv; rw [if_pos (by simp)]
    rw [g2] at m2
    have g1 : gmv a b (a ++ t ++ b) = if t = [] then (S [], false) else (S t, true) := by
      unfold gmv
      rw [if_neg nb]
      by_cases ht : t = []
      · subst ht; rw [if_neg (by simp), if_pos rfl]
      · have : 0 < t.length := List.length_pos_iff.2 ht
        rw [if_neg ht, if_pos]
        · congr 2
          have : (a ++ t ++ b).length - b.length = (a ++ t).length := by simp only [List.length_append]; omega
          rw [this, List.take_left, List.drop_left]
        · refine ⟨by simp; omega, by rw [List.append_assoc, List.take_left], ?_⟩
          have : (a ++ t ++ b).length - b.length = (a ++ t).length := by simp only [List.length_append]; omega
          rw [this, List.drop_left]
    rw [g1] at m1
    refine Ev.step (f := fun k => (glob_Match.f k (S (a ++ 42 :: b)) (S (a ++ t ++ b))).bind fun x => (glob_Match.f k (S (a ++ 42 :: (42 :: b))) (S (a ++ t ++ b))).bind fun y => (glob_Match.f k (S (a ++ b)) (S (a ++ b))).bind fun z => (if t = ([] : List UInt8) then (if x.2 = true then (some false) else (if x.1.toList = ([] : List UInt8) then (if y.2 = true then (some false) else (if z.2 = true then (some false) else some true)) else (some false))) else (if x.2 = true then (if x.1.toList = t then (if y.2 = true then (some false) else (if z.2 = true then (some false) else some true)) else (some false)) else (some false)))) (fun k => ?_) ?_
    · simp only [gossamerlaw24_GlobFits.l0, e1, e2, e3]
      simp only [append_S, size_S, toList_S, List.length_append, show (⟨#[42]⟩ : ByteArray) = S [42] from rfl, show (⟨#[42, 42]⟩ : ByteArray) = S [42, 42] from rfl]
      have hlen : p.length = a.length + b.length := by rw [hp]; simp
      rw [if_pos (by omega), if_neg (by omega), if_pos (by omega), if_pos (by simp; omega), if_pos (by omega), if_pos (by omega)]
      simp only [show a.length + 2 ≤ 9223372036854775807 by omega, show a.length + ([42, 42] : List UInt8).length + b.length ≤ 9223372036854775807 by simp; omega, if_true]
      rfl
    · refine Ev.bind m1 (Ev.bind m2 (Ev.bind m3 ?_))
      by_cases ht : t = []
      · subst ht; simp only [if_true, Bool.false_eq_true, if_false, toList_S]; exact Ev.now _
      · simp only [ht, if_false, if_true, Bool.false_eq_true, toList_S]; exact Ev.now _
  | cons c r ih =>
    intro p hp hn
    have hlen : p.length + r.length + 1 = a.length + b.length := by
      have := congrArg List.length hp
      simp at this
      omega
    have hbt : bt (S a ++ S b) (p.length : Int) = c.toNat := by rw [append_S, ← hp]; exact bt_mid p c r
    by_cases hc : c = 42
    · subst hc
      refine Ev.step (f := fun _ => some true) (fun k => ?_) (Ev.now _)
      simp only [gossamerlaw24_GlobFits.l0]
      rw [hbt]
      simp only [append_S, size_S, List.length_append]
      rw [if_pos (by omega), if_pos (by omega), if_pos (by omega)]
      rfl
    · refine Ev.step (f := fun k => gossamerlaw24_GlobFits.l0 k (S a) (S t) (S b) ((p ++ [c]).length : Int)) (fun k => ?_) (ih (p ++ [c]) (by simpa using hp) (by simp [hn]; exact fun h => hc h.symm))
      simp only [gossamerlaw24_GlobFits.l0]
      rw [hbt]
      simp only [append_S, size_S]
      rw [if_pos (by omega), if_pos (by simp; omega), if_pos (by omega), if_neg (fun h => hc ((byte_eq (by omega) (by omega)).1 h)), next_mid p c (by omega)]
theorem GlobFits : gossamerlaw24_GlobFits.Pure := by
  intro a t b h0 h1 h2
  refine Ev.rounds (r := true) ?_
  unfold gossamerlaw24_GlobFits.f
  obtain ⟨v, hv, hs⟩ := long_f [a, t, b] 120 (by omega) (by omega) (by simp)
  refine Ev.bind hv ?_
  cases v with
  | true => exact Ev.now _
  | false =>
    have ha := hs rfl a (by simp)
    have ht := hs rfl t (by simp)
    have hb := hs rfl b (by simp)
    obtain ⟨a, rfl⟩ := S_of a
    obtain ⟨t, rfl⟩ := S_of t
    obtain ⟨b, rfl⟩ := S_of b
    rw [size_S] at ha ht hb
    simp only [Bool.false_eq_true, if_false]
    exact fits_loop a t b (by omega) (by omega) (by omega) (a ++ b) [] rfl (by simp)
end Go.Proofs.Ytngkeifkeffkdaa.Pure
