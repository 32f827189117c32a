/- What the printed functions of glob and of its document's answer compute: plain. -/
import Derived.Test.YtngkeifkeffkdaaPGx
import Derived.Test.YtngkeifkeffkdaaPureKit
namespace Go.Proofs.Ytngkeifkeffkdaa.Glob
open Go.RowKit Go.Proofs.Ytngkeifkeffkdaa.PG Go.Proofs.YtngkeifkeffkdaaW.PrintWords Go.Proofs.YtngkeifkeffkdaaK

theorem long_ev (ss : List ByteArray) : ∀ (p : List ByteArray) (n : Int), 0 ≤ n → n ≤ 1000 → (p ++ ss).length ≤ 1000000 → ∃ b, Ev (fun k => gossamerlaw0_Long.l0 k n (p ++ ss) (p.length : Int)) b ∧ (b = false → ∀ s ∈ ss, (s.size : Int) < n) := by
  induction ss with
  | nil =>
    intro p n h0 h1 hl
    refine ⟨false, Ev.step (f := fun _ => some false) (fun k => ?_) (Ev.now _), fun _ s hs => by simp at hs⟩
    simp only [gossamerlaw0_Long.l0]
    rw [if_neg (not_lt_end p)]
  | cons x ss ih =>
    intro p n h0 h1 hl
    by_cases hx : (x.size : Int) ≥ n
    · refine ⟨true, Ev.step (f := fun _ => some true) (fun k => ?_) (Ev.now _), fun h => by cases h⟩
      simp only [gossamerlaw0_Long.l0]
      rw [if_pos (lt_mid p x ss), if_pos (by omega), rdOf_mid, if_pos hx]
    · obtain ⟨b, hb, hs⟩ := ih (p ++ [x]) (n - x.size - 1) (by omega) (by omega) (by simpa using hl)
      refine ⟨b, Ev.step (f := fun k => gossamerlaw0_Long.l0 k (n - x.size - 1) (p ++ [x] ++ ss) ((p ++ [x]).length : Int)) (fun k => ?_) hb, fun h s hm => ?_⟩
      · simp only [gossamerlaw0_Long.l0]
        rw [if_pos (lt_mid p x ss), if_pos (by omega), rdOf_mid, if_neg hx, wrap64_id (x := n - x.size) (by omega) (by omega), wrap64_id (by omega) (by omega), next_mid p x (by simp at hl; omega), mid_shift]
      · rcases List.mem_cons.1 hm with rfl | hm
        · omega
        · have := hs h s hm; omega
theorem long_f (ss : List ByteArray) (n : Int) (h0 : 0 ≤ n) (h1 : n ≤ 1000) (hl : ss.length ≤ 1000000) : ∃ b, Ev (fun k => gossamerlaw0_Long.f k n ss) b ∧ (b = false → ∀ s ∈ ss, (s.size : Int) < n) := long_ev ss [] n h0 h1 hl

/-- What a pattern's star stands for. -/
def gmv (a b T : List UInt8) : ByteArray × Bool :=
  if 42 ∈ b then (S [], false) else if a.length + b.length + 1 ≤ T.length ∧ T.take a.length = a ∧ T.drop (T.length - b.length) = b then (S ((T.take (T.length - b.length)).drop a.length), true) else (S [], false)

theorem star_lit : (⟨#[42]⟩ : ByteArray) = S [42] := rfl
theorem index_none {l : List UInt8} (h : (42 : UInt8) ∉ l) : stringslite_Index.f (S l) (⟨#[42]⟩ : ByteArray) = some (-1) := by
  unfold stringslite_Index.f
  rw [if_pos (show (⟨#[42]⟩ : ByteArray).size = 1 from rfl)]
  exact congrArg some (indexByte_none.2 h)
theorem index_some {a b : List UInt8} (h : (42 : UInt8) ∉ a) : stringslite_Index.f (S (a ++ 42 :: b)) (⟨#[42]⟩ : ByteArray) = some (a.length : Int) := by
  unfold stringslite_Index.f
  rw [if_pos (show (⟨#[42]⟩ : ByteArray).size = 1 from rfl)]
  obtain ⟨a', b', he, hn, hi⟩ := indexByte_split (l := a ++ 42 :: b) (c := 42) (by simp)
  have : a' = a := by
    have h1 : ∀ (x y u v : List UInt8), x ++ 42 :: u = y ++ 42 :: v → (42 : UInt8) ∉ x → (42 : UInt8) ∉ y → x = y := by
      intro x
      induction x with
      | nil => intro y u v he hx hy; cases y with
        | nil => rfl
        | cons d y => simp at he; exact absurd (by simp [he.1]) hy
      | cons c x ih => intro y u v he hx hy; cases y with
        | nil => simp at he; exact absurd (by simp [he.1]) hx
        | cons d y =>
          simp at he
          rw [he.1, ih y u v he.2 (fun h => hx (by simp [h])) (fun h => hy (by simp [h]))]
    exact (h1 _ _ _ _ he h hn).symm
  subst this
  exact congrArg some hi
theorem cut_none {l : List UInt8} (h : (42 : UInt8) ∉ l) : strings_Cut.f (S l) (⟨#[42]⟩ : ByteArray) = some (S l, S [], false) := by
  unfold strings_Cut.f stringslite_Cut.f
  rw [index_none h]
  rfl
theorem cut_some {a b : List UInt8} (h : (42 : UInt8) ∉ a) (hl : (a ++ 42 :: b).length ≤ 100000) : strings_Cut.f (S (a ++ 42 :: b)) (⟨#[42]⟩ : ByteArray) = some (S a, S b, true) := by
  unfold strings_Cut.f stringslite_Cut.f
  rw [index_some h]
  simp only [Option.bind_some, size_S, show ((⟨#[42]⟩ : ByteArray).size : Int) = 1 from rfl]
  have hlen : (a ++ 42 :: b).length = a.length + b.length + 1 := by simp; omega
  rw [hlen] at hl ⊢
  rw [if_pos (by omega), if_pos (by omega), if_pos (by omega), wrap64_id (by omega) (by omega), if_pos (by omega), if_pos (by omega)]
  simp only [Option.bind_some, extract_S]
  congr 2
  · simp
  · congr 2
    have h1 : ((a.length : Int) + 1).toNat = a.length + 1 := by omega
    rw [h1, ← hlen, List.take_length, List.drop_append]
    simp
theorem contains_star (l : List UInt8) : strings_Contains.f (S l) (⟨#[42]⟩ : ByteArray) = some (decide (42 ∈ l)) := by
  unfold strings_Contains.f strings_Index.f
  by_cases h : (42 : UInt8) ∈ l
  · obtain ⟨a, b, rfl, hn, _⟩ := indexByte_split h
    rw [index_some hn]
    simp
  · rw [index_none h]
    simp [h]
theorem prefix_f (T a : List UInt8) : strings_HasPrefix.f (S T) (S a) = some (decide (T.take a.length = a)) := by
  unfold strings_HasPrefix.f stringslite_HasPrefix.f
  simp only [size_S]
  by_cases h : (T.length : Int) ≥ a.length
  · rw [if_pos h, if_pos (by omega), if_pos (by omega)]
    simp only [Option.bind_some, extract_S, toList_S, Int.toNat_natCast, List.drop_zero]
    exact congrArg some (by rw [Bool.eq_iff_iff]; simp)
  · rw [if_neg h]
    simp only [Option.bind_some, Option.some.injEq]
    rw [eq_comm, decide_eq_false_iff_not]
    intro he
    have := congrArg List.length he
    simp at this
    omega
theorem suffix_f (T b : List UInt8) (hl : T.length ≤ 100000) : strings_HasSuffix.f (S T) (S b) = some (decide (b.length ≤ T.length ∧ T.drop (T.length - b.length) = b)) := by
  unfold strings_HasSuffix.f stringslite_HasSuffix.f
  simp only [size_S]
  by_cases h : (T.length : Int) ≥ b.length
  · rw [if_pos h, wrap64_id (by omega) (by omega), if_pos (by omega), if_pos (by omega)]
    simp only [Option.bind_some, extract_S, toList_S, List.take_length, Option.some.injEq]
    have h1 : ((T.length : Int) - b.length).toNat = T.length - b.length := by omega
    rw [h1]
    simp only [show b.length ≤ T.length by omega, true_and]
    rw [Bool.eq_iff_iff]; simp
  · rw [if_neg h]
    simp only [Option.bind_some, Option.some.injEq]
    rw [eq_comm, decide_eq_false_iff_not]
    omega

/-- Go's Match. -/
theorem match_none {K : List UInt8} (T : List UInt8) (h : (42 : UInt8) ∉ K) : Ev (fun k => glob_Match.f k (S K) (S T)) (S [], false) := by
  refine Ev.congr (f := fun k => glob_Match.j0 k (S K) (S T) (S K) (S []) true) (fun k => ?_) (Ev.step (f := fun _ => some (S [], false)) (fun k => ?_) (Ev.now _))
  · unfold glob_Match.f
    rw [cut_none h]
    simp only [Option.bind_some]
    rfl
  · simp only [glob_Match.j0]
    rfl
theorem match_some {a b : List UInt8} (T : List UInt8) (h : (42 : UInt8) ∉ a) (hk : (a ++ 42 :: b).length ≤ 100000) (ht : T.length ≤ 100000) : Ev (fun k => glob_Match.f k (S (a ++ 42 :: b)) (S T)) (gmv a b T) := by
  refine Ev.congr (f := fun k => glob_Match.j0 k (S (a ++ 42 :: b)) (S T) (S a) (S b) (decide (42 ∈ b))) (fun k => ?_) (Ev.step (f := fun _ => some (gmv a b T)) (fun k => ?_) (Ev.now _))
  · unfold glob_Match.f
    rw [cut_some h hk]
    simp only [Option.bind_some, contains_star]
    rfl
  · have hlen : (a ++ 42 :: b).length = a.length + b.length + 1 := by simp; omega
    simp only [glob_Match.j0, size_S, hlen]
    unfold gmv
    by_cases hb : (42 : UInt8) ∈ b
    · rw [if_pos (by simpa using hb), if_pos hb]; rfl
    · rw [if_neg (by simpa using hb), if_neg hb]
      by_cases h1 : (T.length : Int) ≤ a.length
      · rw [if_pos h1, if_neg (by omega)]; rfl
      · rw [if_neg h1]
        by_cases h2 : (T.length : Int) < ((a.length + b.length + 1 : Nat) : Int)
        · rw [if_pos h2, if_neg (by omega)]; rfl
        · rw [if_neg h2, prefix_f, suffix_f _ _ ht]
          simp only [Option.bind_some]
          by_cases h3 : T.take a.length = a
          · rw [if_pos (by simpa using h3)]
            by_cases h4 : T.drop (T.length - b.length) = b
            · rw [if_pos (show a.length + b.length + 1 ≤ T.length ∧ T.take a.length = a ∧ T.drop (T.length - b.length) = b from ⟨by omega, h3, h4⟩), if_pos (by simp [h4]; omega), wrap64_id (by omega) (by omega), if_pos (by omega), if_pos (by omega), if_pos (by omega)]
              rw [extract_S]
              have e1 : ((a.length : Int)).toNat = a.length := by omega
              have e2 : ((T.length : Int) - b.length).toNat = T.length - b.length := by omega
              rw [e1, e2]
            · rw [if_neg (by simp [h4]), if_neg (by simp [h4])]; rfl
          · rw [if_neg (by simpa using h3), if_neg (by simp [h3])]; rfl

/-- The document's star. -/
def starL : List UInt8 → Int → Int → Int → Int
  | [], _, at_, n => if n = 1 then at_ else -1
  | c :: l, i, at_, n => if c = 42 then starL l (i + 1) i (n + 1) else starL l (i + 1) at_ n
theorem starL_none {l : List UInt8} (h : (42 : UInt8) ∉ l) : ∀ i at_ n, starL l i at_ n = if n = 1 then at_ else -1 := by
  induction l with
  | nil => intro i at_ n; rfl
  | cons c l ih =>
    intro i at_ n
    simp at h
    unfold starL
    rw [if_neg (fun e => h.1 e.symm), ih h.2]
theorem starL_two {l : List UInt8} : ∀ i at_ n, 2 ≤ n → starL l i at_ n = -1 := by
  induction l with
  | nil => intro i at_ n hn; unfold starL; rw [if_neg (by omega)]
  | cons c l ih =>
    intro i at_ n hn
    unfold starL
    split
    · exact ih _ _ _ (by omega)
    · exact ih _ _ _ hn
theorem starL_more {l : List UInt8} (h : (42 : UInt8) ∈ l) : ∀ i at_, starL l i at_ 1 = -1 := by
  induction l with
  | nil => simp at h
  | cons c l ih =>
    intro i at_
    unfold starL
    by_cases hc : c = 42
    · rw [if_pos hc]; exact starL_two _ _ _ (by omega)
    · rw [if_neg hc]; exact ih (by simp at h; rcases h with h | h; exact absurd h.symm hc; exact h) _ _
theorem starL_split {a b : List UInt8} (h : (42 : UInt8) ∉ a) : ∀ i at_, starL (a ++ 42 :: b) i at_ 0 = if 42 ∈ b then -1 else i + a.length := by
  induction a with
  | nil =>
    intro i at_
    show starL (42 :: b) i at_ 0 = _
    unfold starL
    rw [if_pos rfl]
    by_cases hb : (42 : UInt8) ∈ b
    · rw [if_pos hb]; exact starL_more hb _ _
    · rw [if_neg hb]; rw [starL_none hb]; simp
  | cons c a ih =>
    intro i at_
    simp at h
    show starL (c :: (a ++ 42 :: b)) i at_ 0 = _
    unfold starL
    rw [if_neg (fun e => h.1 e.symm), ih h.2]
    simp only [List.length_cons]
    split
    · rfl
    · omega
theorem star_ev (r : List UInt8) : ∀ (p : List UInt8) (at_ n : Int), 0 ≤ n → n ≤ p.length → (p ++ r).length ≤ 100000 → Ev (fun k => gossamerref24_star.l0 k (S (p ++ r)) at_ n (p.length : Int)) (starL r p.length at_ n) := by
  induction r with
  | nil =>
    intro p at_ n h0 h1 hl
    refine Ev.step (f := fun _ => some (starL [] p.length at_ n)) (fun k => ?_) (Ev.now _)
    simp only [gossamerref24_star.l0, size_S]
    rw [if_neg (not_lt_end p)]
    unfold starL
    split <;> rfl
  | cons c r ih =>
    intro p at_ n h0 h1 hl
    have hl2 : p.length < 100000 := by simp at hl; omega
    by_cases hc : c = 42
    · subst hc
      have := ih (p ++ [42]) p.length (n + 1) (by omega) (by simp; omega) (by simpa using hl)
      refine Ev.step (f := fun k => gossamerref24_star.l0 k (S (p ++ [42] ++ r)) p.length (n + 1) ((p ++ [42]).length : Int)) (fun k => ?_) (by unfold starL; simpa using this)
      simp only [gossamerref24_star.l0, size_S]
      rw [if_pos (lt_mid p _ r), if_pos (by omega), bt_mid, if_pos (show ((UInt8.toNat 42 : Nat) : Int) = 42 from rfl), wrap64_id (x := n + 1) (by omega) (by omega), next_mid p 42 (by omega), mid_shift]
    · have := ih (p ++ [c]) at_ n (by omega) (by simp; omega) (by simpa using hl)
      refine Ev.step (f := fun k => gossamerref24_star.l0 k (S (p ++ [c] ++ r)) at_ n ((p ++ [c]).length : Int)) (fun k => ?_) (by unfold starL; rw [if_neg hc]; simpa using this)
      simp only [gossamerref24_star.l0, size_S]
      rw [if_pos (lt_mid p _ r), if_pos (by omega), bt_mid, if_neg (fun h => hc ((byte_eq (by omega) (by omega)).1 h)), next_mid p c (by omega), mid_shift]
theorem star_f (K : List UInt8) (hl : K.length ≤ 100000) : Ev (fun k => gossamerref24_star.f k (S K)) (starL K 0 (-1) 0) := by
  have := star_ev K [] (-1) 0 (by omega) (by simp) (by simpa using hl)
  exact this
theorem rmatch_none {K : List UInt8} (T : List UInt8) (h : (42 : UInt8) ∉ K) (hl : K.length ≤ 100000) : Ev (fun k => gossamerref24_Match.f k (S K) (S T)) (S [], false) := by
  have hs := star_f K hl
  rw [starL_none h] at hs
  unfold gossamerref24_Match.f
  refine Ev.bind hs ?_
  refine Ev.step (f := fun _ => some (S [], false)) (fun k => ?_) (Ev.now _)
  rw [if_pos (by simp)]
  simp only [gossamerref24_Match.j0]
  rfl
theorem rmatch_some {a b : List UInt8} (T : List UInt8) (h : (42 : UInt8) ∉ a) (hk : (a ++ 42 :: b).length ≤ 100000) (ht : T.length ≤ 100000) : Ev (fun k => gossamerref24_Match.f k (S (a ++ 42 :: b)) (S T)) (gmv a b T) := by
  have hs := star_f _ hk
  rw [starL_split h] at hs
  have hlen : (a ++ 42 :: b).length = a.length + b.length + 1 := by simp; omega
  unfold gossamerref24_Match.f
  refine Ev.bind hs ?_
  refine Ev.step (f := fun _ => some (gmv a b T)) (fun k => ?_) (Ev.now _)
  unfold gmv
  by_cases hb : (42 : UInt8) ∈ b
  · rw [if_pos hb, if_pos (by omega), if_pos hb]
    simp only [gossamerref24_Match.j0]
    rfl
  · rw [if_neg hb, if_neg hb]
    simp only [gossamerref24_Match.j0, size_S, hlen, Int.zero_add]
    rw [if_neg (by omega)]
    by_cases h2 : (T.length : Int) < ((a.length + b.length + 1 : Nat) : Int)
    · rw [if_pos (by simpa using h2), if_neg (by omega)]; rfl
    · have e0 : wrap64 ((a.length : Int) + 1) = ((a.length + 1 : Nat) : Int) := by rw [wrap64_id (by omega) (by omega)]; simp
      have eb : ((S (a ++ 42 :: b)).extract (a.length + 1) (a.length + b.length + 1)) = S b := by
        rw [extract_S, ← hlen, List.take_length, List.drop_append]
        simp only [Nat.add_sub_cancel_left, List.drop_succ_cons, List.drop_zero]
        rw [List.drop_of_length_le (by omega)]
        rfl
      rw [if_neg (by simpa using h2), e0]
      simp only [Int.toNat_natCast, eb, size_S, toList_S, extract_S, List.drop_zero]
      rw [if_pos (by omega), if_pos (by omega), if_pos (by omega), if_pos (by omega), if_pos (by omega)]
      have ea : (a ++ 42 :: b).take a.length = a := by simp
      rw [ea, wrap64_id (by omega) (by omega)]
      have e2 : ((T.length : Int) - b.length).toNat = T.length - b.length := by omega
      rw [e2]
      by_cases h3 : T.take a.length = a
      · rw [if_pos h3, if_pos (by omega), if_pos (by omega), List.take_length]
        by_cases h4 : T.drop (T.length - b.length) = b
        · rw [if_pos h4, if_pos (by omega), if_pos ⟨by omega, h3, h4⟩]
        · rw [if_neg h4, if_neg (by simp [h4])]; rfl
      · rw [if_neg h3, if_neg (by simp [h3])]; rfl

/-- What a key's star stands for; false: it does not fit. -/
def matchV (K : ByteArray) (T : List UInt8) : ByteArray × Bool :=
  if 42 ∈ K.data.toList then gmv (K.data.toList.take (Lib.indexByte K.data.toList 42).toNat) (K.data.toList.drop ((Lib.indexByte K.data.toList 42).toNat + 1)) T else (S [], false)
theorem matchV_none {K : List UInt8} {T : List UInt8} (h : (42 : UInt8) ∉ K) : matchV (S K) T = (S [], false) := by
  unfold matchV; rw [data_S, if_neg h]
theorem indexByte_at {a b : List UInt8} (h : (42 : UInt8) ∉ a) : Lib.indexByte (a ++ 42 :: b) 42 = a.length := by
  have := index_some (b := b) h
  unfold stringslite_Index.f at this
  rw [if_pos (show (⟨#[42]⟩ : ByteArray).size = 1 from rfl)] at this
  exact Option.some.inj this
theorem matchV_some {a b T : List UInt8} (h : (42 : UInt8) ∉ a) : matchV (S (a ++ 42 :: b)) T = gmv a b T := by
  unfold matchV
  rw [data_S, if_pos (by simp), indexByte_at h]
  have e1 : (a ++ 42 :: b).take ((a.length : Int)).toNat = a := by simp
  have e2 : (a ++ 42 :: b).drop (((a.length : Int)).toNat + 1) = b := by
    rw [List.drop_append]
    simp
  rw [e1, e2]
theorem go_match (K : ByteArray) (T : List UInt8) (hk : K.size ≤ 100000) (ht : T.length ≤ 100000) : Ev (fun k => glob_Match.f k K (S T)) (matchV K T) := by
  obtain ⟨K, rfl⟩ := S_of K
  by_cases h : (42 : UInt8) ∈ K
  · obtain ⟨a, b, rfl, hn, _⟩ := indexByte_split h
    rw [matchV_some hn]; exact match_some T hn hk ht
  · rw [matchV_none h]; exact match_none T h
theorem ref_match (K : ByteArray) (T : List UInt8) (hk : K.size ≤ 100000) (ht : T.length ≤ 100000) : Ev (fun k => gossamerref24_Match.f k K (S T)) (matchV K T) := by
  obtain ⟨K, rfl⟩ := S_of K
  by_cases h : (42 : UInt8) ∈ K
  · obtain ⟨a, b, rfl, hn, _⟩ := indexByte_split h
    rw [matchV_some hn]; exact rmatch_some T hn hk ht
  · rw [matchV_none h]; exact rmatch_none T h hk

/-- Weights. -/
theorem globAt_none {l : List UInt8} (h : (42 : UInt8) ∉ l) : globAt (S l) = 0 := by unfold globAt; rw [data_S, indexByte_none.2 h]; rfl
theorem globAt_some {a b : List UInt8} (h : (42 : UInt8) ∉ a) : globAt (S (a ++ 42 :: b)) = a.length + 1 := by unfold globAt; rw [data_S, indexByte_at h]
theorem weight_ev (r : List UInt8) : ∀ (p : List UInt8), (42 : UInt8) ∉ p → (p ++ r).length ≤ 100000 → Ev (fun k => gossamerref24_Weight.l0 k (S (p ++ r)) (p.length : Int)) (globAt (S (p ++ r)), ((p ++ r).length : Int)) := by
  induction r with
  | nil =>
    intro p hp hl
    refine Ev.step (f := fun _ => some (globAt (S (p ++ [])), ((p ++ []).length : Int))) (fun k => ?_) (Ev.now _)
    simp only [gossamerref24_Weight.l0, size_S]
    rw [if_neg (not_lt_end p), globAt_none (by simpa using hp)]
  | cons c r ih =>
    intro p hp hl
    have hl2 : p.length < 100000 := by simp at hl; omega
    by_cases hc : c = 42
    · subst hc
      refine Ev.step (f := fun _ => some (globAt (S (p ++ 42 :: r)), ((p ++ 42 :: r).length : Int))) (fun k => ?_) (Ev.now _)
      simp only [gossamerref24_Weight.l0, size_S]
      rw [if_pos (lt_mid p _ r), if_pos (by omega), bt_mid, if_pos (show ((UInt8.toNat 42 : Nat) : Int) = 42 from rfl), globAt_some hp, wrap64_id (by omega) (by omega)]
    · have := ih (p ++ [c]) (by simp [hp]; exact fun h => hc h.symm) (by simpa using hl)
      refine Ev.step (f := fun k => gossamerref24_Weight.l0 k (S (p ++ [c] ++ r)) ((p ++ [c]).length : Int)) (fun k => ?_) (by rw [mid_shift p c r]; exact this)
      simp only [gossamerref24_Weight.l0, size_S]
      rw [if_pos (lt_mid p _ r), if_pos (by omega), bt_mid, if_neg (fun h => hc ((byte_eq (by omega) (by omega)).1 h)), next_mid p c (by omega), mid_shift]
theorem weight_f (K : ByteArray) (hl : K.size ≤ 100000) : Ev (fun k => gossamerref24_Weight.f k K) (globAt K, (K.size : Int)) := by
  obtain ⟨K, rfl⟩ := S_of K
  exact weight_ev K [] (by simp) (by simpa [size_S] using hl)
theorem globCmp_lt (a b : ByteArray) : globCmp a b < 0 ↔ globAt b < globAt a ∨ globAt b = globAt a ∧ b.size < a.size := by
  unfold globCmp cmpI
  split <;> split <;> (try split) <;> (try split) <;> omega
theorem globCmp_val (a b : ByteArray) : globCmp a b = if globAt b < globAt a ∨ globAt b = globAt a ∧ b.size < a.size then -1 else if globAt a = globAt b ∧ a.size = b.size then 0 else 1 := by
  unfold globCmp cmpI
  repeat' split
  all_goals omega
theorem ref_cmp (a b : ByteArray) (ha : a.size ≤ 100000) (hb : b.size ≤ 100000) : Ev (fun k => gossamerref24_Compare.f k a b) (globCmp a b) := by
  unfold gossamerref24_Compare.f
  refine Ev.bind (weight_f a ha) (Ev.bind (weight_f b hb) ?_)
  refine Ev.step (f := fun _ => some (globCmp a b)) (fun k => ?_) (Ev.now _)
  rw [globCmp_val]
  simp only [gossamerref24_Compare.j0]
  have A : ∀ x : Int, (if globAt b < globAt a ∨ globAt b = globAt a ∧ b.size < a.size then -1 else if globAt a = globAt b ∧ a.size = b.size then 0 else 1) = x → some x = some (if globAt b < globAt a ∨ globAt b = globAt a ∧ b.size < a.size then (-1 : Int) else if globAt a = globAt b ∧ a.size = b.size then 0 else 1) := fun x h => by rw [h]
  by_cases h1 : globAt a > globAt b
  · rw [if_pos h1, if_pos trivial]
    exact A _ (by rw [if_pos (.inl h1)])
  · rw [if_neg h1]
    by_cases h2 : globAt a = globAt b
    · rw [if_pos h2]
      by_cases h3 : (a.size : Int) > b.size
      · rw [if_pos (by simpa using h3)]
        exact A _ (by rw [if_pos (.inr ⟨h2.symm, by omega⟩)])
      · rw [if_neg (by simpa using h3), if_pos h2]
        by_cases h4 : (a.size : Int) = b.size
        · rw [if_pos h4]
          exact A _ (by rw [if_neg (by omega), if_pos ⟨h2, by omega⟩])
        · rw [if_neg h4]
          exact A _ (by rw [if_neg (by omega), if_neg (by omega)])
    · rw [if_neg h2, if_neg (by simp), if_neg h2]
      exact A _ (by rw [if_neg (by omega), if_neg (by omega)])
theorem go_cmp (a b : ByteArray) (ha : a.size ≤ 400) (hb : b.size ≤ 400) : glob_Compare.f a b = some (globCmp a b) := by
  unfold glob_Compare.f
  rw [if_pos ha, if_pos hb]

/-- The best of keys, one by one. -/
def stepV (T : List UInt8) (st : ByteArray × ByteArray × Bool) (k : ByteArray) : ByteArray × ByteArray × Bool :=
  if (matchV k T).2 = true ∧ (st.2.2 = false ∨ globCmp k st.1 < 0) then (k, (matchV k T).1, true) else st
theorem go_best_ev (T : List UInt8) (ht : T.length ≤ 100000) (r : List ByteArray) : ∀ (p : List ByteArray) (best mid : ByteArray) (found : Bool), (p ++ r).length ≤ 100000 → (∀ k ∈ r, k.size ≤ 400) → best.size ≤ 400 →
    Ev (fun k => glob_Best.l0 k (S T) best mid found (p ++ r) ((p ++ r).length : Int) (p.length : Int)) (r.foldl (stepV T) (best, mid, found)) := by
  induction r with
  | nil =>
    intro p best mid found hl hk hb
    refine Ev.step (f := fun _ => some (best, mid, found)) (fun k => ?_) (Ev.now _)
    simp only [glob_Best.l0]
    rw [if_neg (not_lt_end p)]
  | cons x r ih =>
    intro p best mid found hl hk hb
    have hl2 : p.length < 100000 := by simp at hl; omega
    have hx : x.size ≤ 400 := hk x (by simp)
    refine Ev.step (f := fun k => (glob_Match.f k x (S T)).bind fun b => if b.2 = true then (if found = true then (some (globCmp x best)).bind fun t => if t < 0 then glob_Best.l0 k (S T) x b.1 true (p ++ [x] ++ r) ((p ++ [x] ++ r).length : Int) ((p ++ [x]).length : Int) else glob_Best.l0 k (S T) best mid found (p ++ [x] ++ r) ((p ++ [x] ++ r).length : Int) ((p ++ [x]).length : Int) else glob_Best.l0 k (S T) x b.1 true (p ++ [x] ++ r) ((p ++ [x] ++ r).length : Int) ((p ++ [x]).length : Int)) else glob_Best.l0 k (S T) best mid found (p ++ [x] ++ r) ((p ++ [x] ++ r).length : Int) ((p ++ [x]).length : Int)) (fun k => ?_) ?_
    · simp only [glob_Best.l0]
      rw [if_pos (lt_mid p x r), if_pos (by omega), if_pos (lt_mid p x r), rdOf_mid, go_cmp x best hx hb, next_mid p x (by omega), mid_shift]
    · refine Ev.bind (go_match x T (by omega) ht) ?_
      have yes := ih (p ++ [x]) x (matchV x T).1 true (by simpa using hl) (fun k hm => hk k (by simp [hm])) hx
      have no := ih (p ++ [x]) best mid found (by simpa using hl) (fun k hm => hk k (by simp [hm])) hb
      show Ev _ (r.foldl (stepV T) (stepV T (best, mid, found) x))
      unfold stepV
      by_cases h1 : (matchV x T).2 = true
      · simp only [h1, if_true, true_and]
        cases found with
        | true =>
          simp only [if_true, Option.bind_some, Bool.true_eq_false, false_or]
          by_cases h2 : globCmp x best < 0
          · simp only [h2, if_true]; exact yes
          · simp only [h2, if_false]; exact no
        | false =>
          simp only [Bool.false_eq_true, if_false, true_or, if_true]; exact yes
      · simp only [h1, Bool.false_eq_true, if_false, false_and]; exact no
theorem go_best (T : List UInt8) (ht : T.length ≤ 100000) (ks : List ByteArray) (hl : ks.length ≤ 100000) (hk : ∀ k ∈ ks, k.size ≤ 400) : Ev (fun k => glob_Best.f k ks (S T)) (ks.foldl (stepV T) (S [], S [], false)) :=
  go_best_ev T ht ks [] (S []) (S []) false (by simpa using hl) hk (by simp [size_S])
/-- .. and as the document goes. -/
theorem ref_best_ev (T : List UInt8) (ht : T.length ≤ 100000) (r : List ByteArray) : ∀ (p : List ByteArray) (st : ByteArray × ByteArray × Bool) (at_ : Int), (p ++ r).length ≤ 100000 → (∀ k ∈ p ++ r, k.size ≤ 400) →
    (st = (S [], S [], false) ∧ at_ = -1 ∨ ∃ n : Nat, n < p.length ∧ at_ = n ∧ p[n]? = some st.1 ∧ matchV st.1 T = (st.2.1, true) ∧ st.2.2 = true) →
    Ev (fun k => gossamerref24_Best.l0 k (p ++ r) (S T) at_ (p.length : Int)) (r.foldl (stepV T) st) := by
  induction r with
  | nil =>
    intro p st at_ hl hk hst
    rcases hst with ⟨rfl, rfl⟩ | ⟨n, hn, rfl, hp, hm, hf⟩
    · refine Ev.step (f := fun _ => some (S [], S [], false)) (fun k => ?_) (Ev.now _)
      simp only [gossamerref24_Best.l0]
      rw [if_neg (not_lt_end p), if_pos (by omega)]
      rfl
    · have hrd : rdOf ByteArray.empty (p ++ []) (n : Int) = st.1 := by rw [rdOf_nat, List.append_nil, List.getD_eq_getElem?_getD, hp]; rfl
      refine Ev.step (f := fun k => (gossamerref24_Match.f k st.1 (S T)).bind fun b => some (st.1, b.1, true)) (fun k => ?_) ?_
      · simp only [gossamerref24_Best.l0]
        rw [if_neg (not_lt_end p), if_neg (by omega), if_pos (by omega), if_pos (by simp; omega), hrd]
      · have hs : st.1.size ≤ 400 := hk _ (by simp; exact List.mem_of_getElem? hp)
        refine Ev.bind (ref_match st.1 T (by omega) ht) ?_
        rw [hm]
        obtain ⟨a, b, c⟩ := st
        simp only at hf
        subst hf
        exact Ev.now _
  | cons x r ih =>
    intro p st at_ hl hk hst
    have hl2 : p.length < 100000 := by simp at hl; omega
    have hx : x.size ≤ 400 := hk x (by simp)
    have e0 : (x :: r).foldl (stepV T) st = r.foldl (stepV T) (stepV T st x) := rfl
    rw [e0]
    have go : ∀ (st' : ByteArray × ByteArray × Bool) (at' : Int), (st' = (S [], S [], false) ∧ at' = -1 ∨ ∃ n : Nat, n < (p ++ [x]).length ∧ at' = n ∧ (p ++ [x])[n]? = some st'.1 ∧ matchV st'.1 T = (st'.2.1, true) ∧ st'.2.2 = true) → Ev (fun k => gossamerref24_Best.l0 k (p ++ [x] ++ r) (S T) at' ((p ++ [x]).length : Int)) (r.foldl (stepV T) st') :=
      fun st' at' h => ih (p ++ [x]) st' at' (by simpa using hl) (fun k hm => hk k (by simpa using hm)) h
    have stay : (st = (S [], S [], false) ∧ at_ = -1 ∨ ∃ n : Nat, n < (p ++ [x]).length ∧ at_ = n ∧ (p ++ [x])[n]? = some st.1 ∧ matchV st.1 T = (st.2.1, true) ∧ st.2.2 = true) := by
      rcases hst with h | ⟨n, hn, h1, h2, h3⟩
      · exact .inl h
      · exact .inr ⟨n, by simp; omega, h1, by rw [List.getElem?_append_left hn]; exact h2, h3⟩
    have take : (matchV x T).2 = true → ∃ n : Nat, n < (p ++ [x]).length ∧ (p.length : Int) = n ∧ (p ++ [x])[n]? = some (x, (matchV x T).1, true).1 ∧ matchV (x, (matchV x T).1, true).1 T = ((x, (matchV x T).1, true).2.1, true) ∧ (x, (matchV x T).1, true).2.2 = true := by
      intro h
      refine ⟨p.length, by simp, rfl, by simp, ?_, rfl⟩
      show matchV x T = ((matchV x T).1, true)
      rw [← h]
    refine Ev.step (f := fun k => (gossamerref24_Match.f k x (S T)).bind fun b => if b.2 = true then (if at_ < 0 then gossamerref24_Best.l0 k (p ++ [x] ++ r) (S T) p.length ((p ++ [x]).length : Int) else (gossamerref24_Compare.f k x st.1).bind fun t => if t < 0 then gossamerref24_Best.l0 k (p ++ [x] ++ r) (S T) p.length ((p ++ [x]).length : Int) else gossamerref24_Best.l0 k (p ++ [x] ++ r) (S T) at_ ((p ++ [x]).length : Int)) else gossamerref24_Best.l0 k (p ++ [x] ++ r) (S T) at_ ((p ++ [x]).length : Int)) (fun k => ?_) ?_
    · simp only [gossamerref24_Best.l0]
      rw [if_pos (lt_mid p x r), if_pos (by omega), rdOf_mid, next_mid p x (by omega), mid_shift]
      rcases hst with ⟨rfl, rfl⟩ | ⟨n, hn, rfl, hp, hm, hf⟩
      · rfl
      · have hrd : rdOf ByteArray.empty (p ++ [x] ++ r) (n : Int) = st.1 := by
          rw [rdOf_nat, List.getD_eq_getElem?_getD, List.append_assoc, List.getElem?_append_left hn, hp]; rfl
        have h1 : ¬ (n : Int) < 0 := by omega
        have h2 : (0 : Int) ≤ n := by omega
        have h3 : (n : Int) < ((p ++ [x] ++ r).length : Int) := by simp; omega
        simp only [h1, h2, h3, hrd, if_true, if_false]
    · refine Ev.bind (ref_match x T (by omega) ht) ?_
      unfold stepV
      by_cases h1 : (matchV x T).2 = true
      · simp only [h1, if_true, true_and]
        rcases hst with ⟨rfl, rfl⟩ | ⟨n, hn, rfl, hp, hm, hf⟩
        · simp only [show (-1 : Int) < 0 by omega, if_true, true_or]
          exact go _ _ (.inr (take h1))
        · simp only [show ¬ (n : Int) < 0 by omega, if_false, hf, Bool.true_eq_false, false_or]
          have hs : st.1.size ≤ 400 := hk _ (by simp; exact .inl (List.mem_of_getElem? hp))
          refine Ev.bind (ref_cmp x st.1 (by omega) (by omega)) ?_
          by_cases h2 : globCmp x st.1 < 0
          · simp only [h2, if_true]; exact go _ _ (.inr (take h1))
          · simp only [h2, if_false]; exact go _ _ stay
      · simp only [h1, Bool.false_eq_true, if_false, false_and]; exact go _ _ stay
theorem ref_best (T : List UInt8) (ht : T.length ≤ 100000) (ks : List ByteArray) (hl : ks.length ≤ 100000) (hk : ∀ k ∈ ks, k.size ≤ 400) : Ev (fun k => gossamerref24_Best.f k ks (S T)) (ks.foldl (stepV T) (S [], S [], false)) :=
  ref_best_ev T ht ks [] (S [], S [], false) (-1) (by simpa using hl) (by simpa using hk) (.inl ⟨rfl, rfl⟩)

/-- How two small floats stand to each other. -/
theorem float_eq (m n : Int) (h0 : 0 ≤ m) (h1 : m < 512) (h2 : 0 ≤ n) (h3 : n < 512) : (FloatKind.f64.format.order (floatOfInt .f64 m) (floatOfInt .f64 n) == some .eq) = decide (m = n) := by
  rw [Go.Proofs.YtngkeifkeffkdaaF.order_int m n h0 h1 h2 h3]
  rcases Int.lt_trichotomy m n with h | h | h
  · rw [Int.compare_eq_lt.2 h, Bool.eq_iff_iff]; simp; omega
  · subst h; simp
  · rw [Int.compare_eq_gt.2 h, Bool.eq_iff_iff]; simp; omega
end Go.Proofs.Ytngkeifkeffkdaa.Glob
