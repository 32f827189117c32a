/- GlobTurns: which key counts for a text, and what its star stands for, does not hang on the order of the keys; no key that fits counts more than the one told. For every input (at most 20 keys of 300 bytes together, a text of at most 60; the statement's own bounds); nothing is assumed. -/
import Derived.Test.YtngkeifkeffkdaaGlobPure
namespace Go.Proofs.Ytngkeifkeffkdaa.Pure
open Go.RowKit Go.Proofs.Ytngkeifkeffkdaa.PG Go.Proofs.YtngkeifkeffkdaaW.PrintWords Go.Proofs.YtngkeifkeffkdaaW.PrintLast Go.Proofs.YtngkeifkeffkdaaK Go.Proofs.Ytngkeifkeffkdaa.Glob
/-- What the best of keys is. -/
def Best (T : List UInt8) (ks : List ByteArray) (st : ByteArray × ByteArray × Bool) : Prop :=
  (st = (S [], S [], false) ∧ ∀ k ∈ ks, (matchV k T).2 = false) ∨ (st.1 ∈ ks ∧ matchV st.1 T = (st.2.1, true) ∧ st.2.2 = true ∧ ∀ k ∈ ks, (matchV k T).2 = true → ¬ globCmp k st.1 < 0)
theorem best_step {T : List UInt8} {ks : List ByteArray} {st : ByteArray × ByteArray × Bool} (h : Best T ks st) (k : ByteArray) : Best T (ks ++ [k]) (stepV T st k) := by
  unfold stepV
  by_cases hk : (matchV k T).2 = true
  · rcases h with ⟨rfl, h⟩ | ⟨h1, h2, h3, h4⟩
    · rw [if_pos ⟨hk, .inl rfl⟩]
      refine .inr ⟨by simp, by rw [← hk], rfl, fun x hx hm => ?_⟩
      rcases List.mem_append.1 hx with hx | hx
      · rw [h x hx] at hm; cases hm
      · have : x = k := by simpa using hx
        subst this
        show ¬ globCmp x x < 0
        rw [globCmp_lt]; omega
    · by_cases hc : globCmp k st.1 < 0
      · rw [if_pos ⟨hk, .inr hc⟩]
        refine .inr ⟨by simp, by rw [← hk], rfl, fun x hx hm => ?_⟩
        rcases List.mem_append.1 hx with hx | hx
        · have := h4 x hx hm
          rw [globCmp_lt] at this hc ⊢
          show ¬ (globAt k < globAt x ∨ globAt k = globAt x ∧ k.size < x.size)
          omega
        · have : x = k := by simpa using hx
          subst this
          show ¬ globCmp x x < 0
          rw [globCmp_lt]; omega
      · rw [if_neg (by rintro ⟨_, h | h⟩; rw [h3] at h; cases h; exact hc h)]
        refine .inr ⟨by simp [h1], h2, h3, fun x hx hm => ?_⟩
        rcases List.mem_append.1 hx with hx | hx
        · exact h4 x hx hm
        · have : x = k := by simpa using hx
          subst this
          exact hc
  · rw [if_neg (fun h => hk h.1)]
    have hk' : (matchV k T).2 = false := by simpa using hk
    rcases h with ⟨rfl, h⟩ | ⟨h1, h2, h3, h4⟩
    · refine .inl ⟨rfl, fun x hx => ?_⟩
      rcases List.mem_append.1 hx with hx | hx
      · exact h x hx
      · have : x = k := by simpa using hx
        subst this; exact hk'
    · refine .inr ⟨by simp [h1], h2, h3, fun x hx hm => ?_⟩
      rcases List.mem_append.1 hx with hx | hx
      · exact h4 x hx hm
      · have : x = k := by simpa using hx
        subst this; rw [hk'] at hm; cases hm
theorem best_fold (T : List UInt8) (r : List ByteArray) : ∀ (p : List ByteArray) (st : ByteArray × ByteArray × Bool), Best T p st → Best T (p ++ r) (r.foldl (stepV T) st) := by
  induction r with
  | nil => intro p st h; simpa using h
  | cons x r ih => intro p st h; rw [mid_shift]; exact ih _ _ (best_step h x)
theorem best_all (T : List UInt8) (ks : List ByteArray) : Best T ks (ks.foldl (stepV T) (S [], S [], false)) := by
  have := best_fold T ks [] (S [], S [], false) (.inl ⟨rfl, fun k hk => by simp at hk⟩)
  simpa using this
/-- Keys that fit and weigh the same are one. -/
theorem same_key {T : List UInt8} {x y : ByteArray} (hx : (matchV x T).2 = true) (hy : (matchV y T).2 = true) (h1 : globAt x = globAt y) (h2 : x.size = y.size) : x = y := by
  obtain ⟨x, rfl⟩ := S_of x
  obtain ⟨y, rfl⟩ := S_of y
  have split : ∀ K : List UInt8, (matchV (S K) T).2 = true → ∃ a b, K = a ++ 42 :: b ∧ (42 : UInt8) ∉ a ∧ T.take a.length = a ∧ T.drop (T.length - b.length) = b := by
    intro K h
    by_cases hm : (42 : UInt8) ∈ K
    · obtain ⟨a, b, rfl, hn, _⟩ := indexByte_split hm
      rw [matchV_some hn] at h
      refine ⟨a, b, rfl, hn, ?_⟩
      unfold gmv at h
      split at h
      · cases h
      · split at h
        · rename_i hh; exact hh.2
        · cases h
    · rw [matchV_none hm] at h; cases h
  obtain ⟨a, b, rfl, hn, ha, hb⟩ := split x hx
  obtain ⟨c, d, rfl, hn', hc, hd⟩ := split y hy
  rw [globAt_some hn, globAt_some hn'] at h1
  rw [size_S, size_S] at h2
  simp at h2
  have e1 : a.length = c.length := by omega
  have e2 : b.length = d.length := by omega
  rw [e1] at ha
  rw [e2] at hb
  rw [← ha, ← hb, hc, hd]
theorem best_one {T : List UInt8} {ks ls : List ByteArray} {u v : ByteArray × ByteArray × Bool} (hm : ∀ k, k ∈ ks ↔ k ∈ ls) (hu : Best T ks u) (hv : Best T ls v) : u = v := by
  rcases hu with ⟨rfl, hu⟩ | ⟨u1, u2, u3, u4⟩
  · rcases hv with ⟨rfl, hv⟩ | ⟨v1, v2, v3, v4⟩
    · rfl
    · have := hu _ ((hm _).2 v1)
      rw [v2] at this; cases this
  · rcases hv with ⟨rfl, hv⟩ | ⟨v1, v2, v3, v4⟩
    · have := hv _ ((hm _).1 u1)
      rw [u2] at this; cases this
    · have a1 := u4 _ ((hm _).2 v1) (by rw [v2])
      have a2 := v4 _ ((hm _).1 u1) (by rw [u2])
      rw [globCmp_lt] at a1 a2
      have e : u.1 = v.1 := same_key (T := T) (by rw [u2]) (by rw [v2]) (by omega) (by omega)
      obtain ⟨x, y, z⟩ := u
      obtain ⟨x', y', z'⟩ := v
      simp only at e u2 v2 u3 v3
      subst e u3 v3
      rw [u2] at v2
      cases v2
      rfl
theorem turns_last (ks : List ByteArray) (T : List UInt8) (ht : T.length ≤ 100000) (st : ByteArray × ByteArray × Bool) (hb : Best T ks st) (hs : st.1.size ≤ 400) (hk : ∀ k ∈ ks, k.size ≤ 400) (hl : ks.length ≤ 1000) (r : List ByteArray) : ∀ p : List ByteArray, p ++ r = ks →
    Ev (fun k => gossamerlaw24_GlobTurns.l1 k ks (S T) st.1 st.2.1 st.2.2 (p.length : Int)) true := by
  induction r with
  | nil =>
    intro p hp
    rw [List.append_nil] at hp
    subst hp
    refine Ev.step (f := fun _ => some true) (fun k => ?_) (Ev.now _)
    simp only [gossamerlaw24_GlobTurns.l1]
    rw [if_neg (by omega)]
    rfl
  | cons x r ih =>
    intro p hp
    have hlen : p.length < 1000 := by
      have := congrArg List.length hp
      simp at this
      omega
    have hx : x ∈ ks := by rw [← hp]; simp
    have next := ih (p ++ [x]) (by simpa using hp)
    refine Ev.step (f := fun k => (glob_Match.f k x (S T)).bind fun b => (if b.2 = true then (if st.2.2 = true then ((glob_Compare.f x st.1).bind fun t => (if t < 0 then (some false) else (if x.toList = st.1.toList then (if b.1.toList = st.2.1.toList then (gossamerlaw24_GlobTurns.l1 k ks (S T) st.1 st.2.1 st.2.2 ((p ++ [x]).length : Int)) else (some false)) else (gossamerlaw24_GlobTurns.l1 k ks (S T) st.1 st.2.1 st.2.2 ((p ++ [x]).length : Int))))) else (some false)) else (gossamerlaw24_GlobTurns.l1 k ks (S T) st.1 st.2.1 st.2.2 ((p ++ [x]).length : Int)))) (fun k => ?_) ?_
    · have h1 := lt_mid p x r
      have h2 := rdOf_mid ByteArray.empty p x r
      rw [hp] at h1 h2
      simp only [gossamerlaw24_GlobTurns.l1]
      rw [if_pos h1, if_pos (by omega), h2, next_mid p x (by omega)]
    · refine Ev.bind (go_match x T (by have := hk x hx; omega) ht) ?_
      by_cases hm : (matchV x T).2 = true
      · rcases hb with ⟨rfl, hb⟩ | ⟨b1, b2, b3, b4⟩
        · rw [hb x hx] at hm; cases hm
        · have nc := b4 x hx hm
          simp only [hm, b3, if_true]
          rw [go_cmp x st.1 (hk x hx) hs]
          simp only [Option.bind_some, nc, if_false]
          rw [b3] at next
          by_cases he : x.toList = st.1.toList
          · have : x = st.1 := by
              obtain ⟨x', rfl⟩ := S_of x
              obtain ⟨y', hy⟩ := S_of st.1
              rw [hy, toList_S, toList_S] at he
              rw [hy, he]
            simp only [he, if_true]
            rw [show matchV x T = (st.2.1, true) from by rw [this]; exact b2]
            simp only [if_true]
            exact next
          · simp only [he, if_false]; exact next
      · simp only [hm, Bool.false_eq_true, if_false]; exact next
theorem turns_back (ks : List ByteArray) (T : List UInt8) (ht : T.length ≤ 100000) (hk : ∀ k ∈ ks, k.size ≤ 400) (hl : ks.length ≤ 1000) (p : List ByteArray) : ∀ r : List ByteArray, p ++ r = ks →
    Ev (fun k => gossamerlaw24_GlobTurns.l0 k ks (S T) r.reverse ((p.length : Int) - 1)) true := by
  suffices H : ∀ n (p r : List ByteArray), p.length = n → p ++ r = ks → Ev (fun k => gossamerlaw24_GlobTurns.l0 k ks (S T) r.reverse ((p.length : Int) - 1)) true from fun r h => H _ p r rfl h
  intro n
  induction n with
  | zero =>
    intro p r hp h
    have : p = [] := List.length_eq_zero_iff.1 hp
    subst this
    rw [List.nil_append] at h
    subst h
    have hb := best_all T r
    have hb2 := best_all T r.reverse
    have heq := best_one (fun k => by simp) hb hb2
    have hs : (r.foldl (stepV T) (S [], S [], false)).1.size ≤ 400 := by
      rcases hb with ⟨hb, _⟩ | ⟨hb, _⟩
      · rw [hb]; simp [size_S]
      · exact hk _ hb
    have g1 := go_best T ht r (by omega) hk
    have g2 := go_best T ht r.reverse (by simp; omega) (fun k hm => hk k (by simpa using hm))
    rw [← heq] at g2
    have last := turns_last r T ht _ hb hs hk hl r [] rfl
    refine Ev.step (f := fun k => (glob_Best.f k r (S T)).bind fun x => (glob_Best.f k r.reverse (S T)).bind fun y => (if x.1.toList = y.1.toList then (if x.2.1.toList = y.2.1.toList then (gossamerlaw24_GlobTurns.j2 k r (S T) x.1 x.2.1 x.2.2 (x.2.2 != y.2.2)) else (gossamerlaw24_GlobTurns.j2 k r (S T) x.1 x.2.1 x.2.2 true)) else (gossamerlaw24_GlobTurns.j2 k r (S T) x.1 x.2.1 x.2.2 true))) (fun k => ?_) ?_
    · simp only [gossamerlaw24_GlobTurns.l0]
      rw [if_neg (by simp)]
    · refine Ev.bind g1 (Ev.bind g2 ?_)
      simp only [if_true, bne_self_eq_false]
      refine Ev.step (f := fun k => gossamerlaw24_GlobTurns.l1 k r (S T) (r.foldl (stepV T) (S [], S [], false)).1 (r.foldl (stepV T) (S [], S [], false)).2.1 (r.foldl (stepV T) (S [], S [], false)).2.2 0) (fun k => ?_) last
      simp only [gossamerlaw24_GlobTurns.j2]
      rfl
  | succ n ih =>
    intro p r hp h
    obtain ⟨p', x, rfl⟩ : ∃ p' x, p = p' ++ [x] := by
      rcases List.eq_nil_or_concat p with rfl | ⟨p', x, rfl⟩
      · simp at hp
      · exact ⟨p', x, by simp⟩
    have hl' : p'.length = n := by simpa using hp
    have hlen : p'.length + r.length + 1 = ks.length := by
      have := congrArg List.length h
      simp at this
      omega
    have next := ih p' (x :: r) hl' (by simpa using h)
    refine Ev.step (f := fun k => gossamerlaw24_GlobTurns.l0 k ks (S T) (x :: r).reverse ((p'.length : Int) - 1)) (fun k => ?_) next
    have hi : ((p' ++ [x]).length : Int) - 1 = p'.length := by simp
    have hr : rdOf ByteArray.empty ks (p'.length : Int) = x := by rw [← h, List.append_assoc]; exact rdOf_mid ByteArray.empty p' x r
    simp only [gossamerlaw24_GlobTurns.l0]
    rw [hi, if_pos (by omega), if_pos (by omega), if_pos (by omega), if_pos (by simp; omega), hr, wrap64_id (by omega) (by omega)]
    simp
theorem GlobTurns : gossamerlaw24_GlobTurns.Pure := by
  intro ks T h0 h1 h2 h3
  refine Ev.rounds (r := true) ?_
  have wake : ∀ x1 : ByteArray, Ev (fun k => gossamerlaw24_GlobTurns.j0 k ks x1 true) true := fun x1 => Ev.step (f := fun _ => some true) (fun k => by simp only [gossamerlaw24_GlobTurns.j0]; rfl) (Ev.now _)
  unfold gossamerlaw24_GlobTurns.f
  by_cases hl : (ks.length : Int) > 20
  · simp only [hl, if_true]; exact wake T
  · simp only [hl, if_false]
    obtain ⟨v, hv, hs⟩ := long_f ks 300 (by omega) (by omega) (by omega)
    refine Ev.bind hv ?_
    cases v with
    | true => exact wake T
    | false =>
      simp only [Bool.false_eq_true, if_false]
      by_cases ht : (T.size : Int) > 60
      · simp only [ht, decide_true]; exact wake T
      · simp only [ht, decide_false]
        obtain ⟨T, rfl⟩ := S_of T
        rw [size_S] at ht
        have hk : ∀ k ∈ ks, k.size ≤ 400 := fun k hm => by have := hs rfl k hm; omega
        have := turns_back ks T (by omega) hk (by omega) ks [] (by simp)
        refine Ev.step (f := fun k => gossamerlaw24_GlobTurns.l0 k ks (S T) ([] : List ByteArray).reverse ((ks.length : Int) - 1)) (fun k => ?_) this
        simp only [gossamerlaw24_GlobTurns.j0]
        rw [if_neg (by simp), wrap64_id (by omega) (by omega)]
        rfl
end Go.Proofs.Ytngkeifkeffkdaa.Pure
