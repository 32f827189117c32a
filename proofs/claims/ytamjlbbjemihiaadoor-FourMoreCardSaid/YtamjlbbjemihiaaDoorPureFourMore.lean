/- FourMore: a number too great for what is left of the 32 bits is no address; the greatest that fits is one; five parts, an empty part between dots and a first part above a byte are none. For every input; nothing is assumed. -/
import Derived.Test.YtamjlbbjemihiaaDoorFourNum
set_option linter.unusedVariables false
set_option linter.unusedSimpArgs false
namespace Go.Proofs.YtamjlbbjemihiaaDoor.Pure
open Go.RowKit Go.Proofs.YtamjlbbjemihiaaDoor.PF Go.Proofs.YtamjlbbjemihiaaDoorW.PrintWords Go.Proofs.YtamjlbbjemihiaaDoorW.PrintMore Go.Proofs.YtamjlbbjemihiaaDoorW.PrintLast Go.Proofs.YtamjlbbjemihiaaDoorK Go.Proofs.YtamjlbbjemihiaaDoorL Go.Proofs.YtamjlbbjemihiaaDoor.Four
namespace More
theorem ifp {α : Type} {c : Prop} [Decidable c] {f g : Nat → Option α} {r : α} (hc : c) (h : Ev f r) : Ev (fun n => if c then f n else g n) r := by
  simp only [hc, if_true]; exact h
theorem ifn {α : Type} {c : Prop} [Decidable c] {f g : Nat → Option α} {r : α} (hc : ¬ c) (h : Ev g r) : Ev (fun n => if c then f n else g n) r := by
  simp only [hc, if_false]; exact h
/-- A byte's part, and a number's. -/
def part (n : Nat) : List UInt8 := digF 10 19 n
theorem part_len (n : Nat) : (part n).length ≤ 19 := digF_len 10 19 n
theorem part_ne (n : Nat) : part n ≠ [] := digF_ne (by omega)
theorem part_dot (n : Nat) : (46 : UInt8) ∉ part n := digF_dot (.inr (.inl rfl)) 19 n
theorem part_num {n : Nat} (h : n < 1000000000000) : numL (part n) = (mn n 4294967296, true) :=
  form_num 0 (f := 19) (n := n) (Nat.lt_of_lt_of_le h (by decide)) (Nat.lt_of_lt_of_le h (by decide)) (Nat.lt_of_lt_of_le h (by decide)) (by omega)
/-- b. as often as i tells. -/
def lead (b : Nat) : Nat → List UInt8
  | 0 => []
  | i + 1 => lead b i ++ part b ++ [46]
theorem lead_len (b : Nat) : ∀ i, (lead b i).length ≤ 20 * i
  | 0 => by simp [lead]
  | i + 1 => by
    have := lead_len b i
    have := part_len b
    simp [lead]; omega
theorem lead_split (b : Nat) {p : List UInt8} (hp : (46 : UInt8) ∉ p) : ∀ i, splitC 46 (lead b i ++ p) = List.replicate i (part b) ++ [p]
  | 0 => by simp [lead, splitC_none hp]
  | i + 1 => by
    have ih := lead_split b (part_dot b) i
    rw [lead, List.append_assoc]
    show splitC 46 (lead b i ++ part b ++ 46 :: p) = _
    rw [splitC_more _ hp, ih, List.replicate_succ']
theorem dots_lead (b : Nat) {p : List UInt8} (hp : (46 : UInt8) ∉ p) (hn : p ≠ []) (i : Nat) : dotsL (lead b i ++ p) = List.replicate i (part b) ++ [p] := dots_of (lead_split b hp i) (by simp [hn])
theorem goP_lead {b : Nat} (hb : b < 256) (p : List UInt8) : ∀ (m i : Nat) (s : Int), ∃ s' : Int, goP i (List.replicate m (part b) ++ [p]) s = goP (i + m) [p] s'
  | 0, i, s => ⟨s, rfl⟩
  | m + 1, i, s => by
    rw [List.replicate_succ, List.cons_append, goP_more _ _ (by simp), part_num (by omega), if_pos ⟨rfl, by show mn (b : Int) 4294967296 < 256; unfold mn; split <;> omega⟩]
    obtain ⟨s', h⟩ := goP_lead hb p m (i + 1) (s * 256 + mn b 4294967296)
    exact ⟨s', by rw [h]; congr 1; omega⟩
theorem parse_lead {b v i : Nat} (hb : b < 256) (hi : i < 4) (hv : v < 1000000000000) : (parseL (lead b i ++ part v)).2 = decide (mn (v : Int) 4294967296 < 2 ^ (8 * (4 - i))) := by
  unfold parseL
  rw [dots_lead b (part_dot v) (part_ne v), if_neg (by simp; omega)]
  obtain ⟨s, h⟩ := goP_lead hb (part v) i 0 0
  rw [h, goP_last, part_num hv, Nat.zero_add]
  by_cases hc : mn (v : Int) 4294967296 < 2 ^ (8 * (4 - i))
  · rw [if_pos ⟨rfl, hc⟩, decide_eq_true hc]
  · rw [if_neg (fun h => hc h.2), decide_eq_false hc]
theorem five : (parseL [49, 46, 50, 46, 51, 46, 52, 46, 53]).2 = false := by decide +kernel
theorem gap : (parseL [49, 46, 46, 50]).2 = false := by decide +kernel
theorem first {v : Nat} (h0 : 256 ≤ v) (hv : v < 1000000000000) : (parseL (part v ++ [46, 49])).2 = false := by
  unfold parseL
  have : dotsL (part v ++ [46, 49]) = [part v, [49]] := by
    refine dots_of ?_ (by simp)
    show splitC 46 (part v ++ 46 :: [49]) = _
    rw [splitC_split (part_dot v), splitC_none (by decide)]
  rw [this, if_neg (by simp), goP_more _ _ (by simp), part_num hv, if_neg]
  rintro ⟨_, h⟩
  have h : mn (v : Int) 4294967296 < 256 := h
  unfold mn at h
  split at h <;> omega
theorem pow_of {i : Nat} (hi : i < 4) : shl .i64 1 (wrap64 (8 * wrap64 (5 - ((i + 1 : Nat) : Int)))) = ((2 ^ (8 * (4 - i)) : Nat) : Int) ∧ 0 ≤ wrap64 (8 * wrap64 (5 - ((i + 1 : Nat) : Int))) := by
  match i, hi with
  | 0, _ => exact ⟨by kernel_rfl, by decide +kernel⟩
  | 1, _ => exact ⟨by kernel_rfl, by decide +kernel⟩
  | 2, _ => exact ⟨by kernel_rfl, by decide +kernel⟩
  | 3, _ => exact ⟨by kernel_rfl, by decide +kernel⟩
theorem pow_bd {i : Nat} (hi : i < 4) : 256 ≤ 2 ^ (8 * (4 - i)) ∧ 2 ^ (8 * (4 - i)) ≤ 4294967296 := by
  match i, hi with
  | 0, _ => decide
  | 1, _ => decide
  | 2, _ => decide
  | 3, _ => decide
theorem pow_int {i : Nat} (hi : i < 4) : (2 : Int) ^ (8 * (4 - i)) = ((2 ^ (8 * (4 - i)) : Nat) : Int) := by
  match i, hi with
  | 0, _ => rfl
  | 1, _ => rfl
  | 2, _ => rfl
  | 3, _ => rfl
theorem limit {i : Nat} (hi : i < 4) : ∃ P : Nat, 256 ≤ P ∧ P ≤ 4294967296 ∧ shl .i64 1 (wrap64 (8 * wrap64 (5 - ((i + 1 : Nat) : Int)))) = (P : Int) ∧ 0 ≤ wrap64 (8 * wrap64 (5 - ((i + 1 : Nat) : Int))) ∧
    ∀ b v : Nat, b < 256 → v < 1000000000000 → (parseL (lead b i ++ part v)).2 = decide (mn (v : Int) 4294967296 < (P : Int)) :=
  ⟨2 ^ (8 * (4 - i)), (pow_bd hi).1, (pow_bd hi).2, (pow_of hi).1, (pow_of hi).2, fun b v hb hv => by rw [← pow_int hi]; exact parse_lead hb hi hv⟩
theorem last {a b i : Nat} (ha : a < 65536) (hb : b < 256) (hi : i < 4) : Ev (fun k => gossamerlaw8_FourMore.l0 k a b ((i + 1 : Nat) : Int) (S (lead b i)) ((i + 1 : Nat) : Int)) true := by
  have ll := lead_len b i
  obtain ⟨P, pb1, pb2, p1, p2, parse⟩ := limit hi
  have g1 : P + a < 5000000000 := by clear p1 p2; omega
  have g2 : P - 1 < 5000000000 := by clear p1 p2; omega
  have g3 : 256 + a < 5000000000 := by clear p1 p2; omega
  have big : (5000000000 : Nat) ≤ 1000000000000 := by decide
  have d : ∀ v : Nat, v < 5000000000 → Ev (fun k => gossamerlaw0_Digits.f k (v : Int)) (S (part v)) := fun v hv => law0_digits 19 v (Nat.lt_of_lt_of_le hv (by decide)) (by decide) (by decide) (Nat.lt_of_lt_of_le hv (by decide))
  have e1 : (parseL (lead b i ++ part (P + a))).2 = false := by
    refine (parse b (P + a) hb (Nat.lt_of_lt_of_le g1 big)).trans (decide_eq_false ?_)
    clear p1 p2 parse
    unfold mn
    split <;> omega
  have e2 : (parseL (lead b i ++ part (P - 1))).2 = true := by
    refine (parse b (P - 1) hb (Nat.lt_of_lt_of_le g2 big)).trans (decide_eq_true ?_)
    clear p1 p2 parse
    unfold mn
    split <;> omega
  have e3 : (parseL (part (256 + a) ++ [46, 49])).2 = false := first (v := 256 + a) (Nat.le_add_right _ _) (Nat.lt_of_lt_of_le g3 big)
  have l1 := part_len (P + a)
  have l2 := part_len (P - 1)
  have l3 := part_len (256 + a)
  have w0 : wrap64 (a : Int) = a := wrap64_id (by clear p1 p2; omega) (by clear p1 p2; omega)
  have w1 : wrap64 ((P : Int) + a) = ((P + a : Nat) : Int) := by clear p1 p2 w0; rw [wrap64_id (by omega) (by omega)]; omega
  have w2 : wrap64 ((P : Int) - 1) = ((P - 1 : Nat) : Int) := by clear p1 p2 w0 w1; rw [wrap64_id (by omega) (by omega)]; omega
  have w3 : wrap64 (256 + (a : Int)) = ((256 + a : Nat) : Int) := by clear p1 p2 w0 w1 w2; rw [wrap64_id (by omega) (by omega)]; omega
  refine Ev.step (f := fun k => ((gossamerlaw0_Digits.f k ((P + a : Nat) : Int)).bind fun t218 => (if (S (lead b i)).size + t218.size ≤ 9223372036854775807 then ((ip4_Parse.f k ((S (lead b i)) ++ t218)).bind fun bt219 => ((gossamerlaw0_Digits.f k ((P - 1 : Nat) : Int)).bind fun t221 => (if (S (lead b i)).size + t221.size ≤ 9223372036854775807 then ((ip4_Parse.f k ((S (lead b i)) ++ t221)).bind fun bt222 => ((ip4_Parse.f k (S [49, 46, 50, 46, 51, 46, 52, 46, 53])).bind fun bt224 => ((ip4_Parse.f k (S [49, 46, 46, 50])).bind fun bt226 => ((gossamerlaw0_Digits.f k ((256 + a : Nat) : Int)).bind fun t228 => (if t228.size + 2 ≤ 9223372036854775807 then ((ip4_Parse.f k (t228 ++ (S [46, 49]))).bind fun bt229 => (if bt219.2 = true then (some false) else (if bt222.2 = true then (if bt224.2 = true then (some false) else (if bt226.2 = true then (some false) else (if bt229.2 = true then (some false) else ((gossamerlaw8_awake.f k).bind fun t231 => (some t231))))) else (some false)))) else (none)))))) else (none)))) else (none)))) (fun k => ?_) ?_
  · simp only [gossamerlaw8_FourMore.l0]
    rw [if_neg (Int.lt_irrefl _), if_pos p2, p1, w0, w1, w2, w3]
    rfl
  · clear p1 p2 w0 w1 w2 w3
    refine Ev.bind (d _ g1) ?_
    rw [append_S, size_S, size_S]
    refine ifp (by omega) (Ev.bind (go_parse _ (by simp; omega)) (Ev.bind (d _ g2) ?_))
    rw [append_S, size_S]
    refine ifp (by omega) (Ev.bind (go_parse _ (by simp; omega)) (Ev.bind (go_parse _ (by simp)) (Ev.bind (go_parse _ (by simp)) (Ev.bind (d _ g3) ?_))))
    rw [append_S, size_S]
    refine ifp (by omega) (Ev.bind (go_parse _ (by simp; omega)) ?_)
    rw [e1, e2, e3, five, gap]
    simp only [Bool.false_eq_true, if_false, if_true]
    exact Ev.bind awake (Ev.now _)
theorem turns {a b n : Nat} (ha : a < 65536) (hb : b < 256) (hn : n < 4) : ∀ (m i : Nat), i + m = n → Ev (fun k => gossamerlaw8_FourMore.l0 k a b ((n + 1 : Nat) : Int) (S (lead b i)) ((i + 1 : Nat) : Int)) true
  | 0, i, h => by
    obtain rfl : i = n := by omega
    exact last ha hb hn
  | m + 1, i, h => by
    have w : wrap64 (((i + 1 : Nat) : Int) + 1) = ((i + 1 + 1 : Nat) : Int) := by rw [wrap64_id (by omega) (by omega)]; omega
    have ll := lead_len b i
    have pl := part_len b
    have dg : Ev (fun k => gossamerlaw8_digits.f k (b : Int) 10) (S (part b)) := law_digits (b := 10) (.inr (.inl rfl)) 19 b (Nat.lt_of_lt_of_le hb (by decide)) (by omega) (by omega) (by omega)
    refine Ev.step (f := fun k => (gossamerlaw8_digits.f k b 10).bind fun t => (if (S (lead b i)).size + t.size ≤ 9223372036854775807 then (if ((S (lead b i)) ++ t).size + 1 ≤ 9223372036854775807 then (gossamerlaw8_FourMore.l0 k a b ((n + 1 : Nat) : Int) (((S (lead b i)) ++ t) ++ (S [46])) ((i + 1 + 1 : Nat) : Int)) else (none)) else (none))) (fun k => ?_) ?_
    · simp only [gossamerlaw8_FourMore.l0]
      rw [if_pos (by omega), w, show (b : Int) % 4294967296 = b by omega]
      rfl
    · refine Ev.bind dg ?_
      rw [append_S, append_S, size_S, size_S, size_S]
      exact ifp (by omega) (ifp (by simp; omega) (turns ha hb hn m (i + 1) (by omega)))
end More
theorem FourMore : gossamerlaw8_FourMore.Pure := by
  intro a0 a1 a2 _ h1 h2
  refine Ev.rounds (r := true) ?_
  obtain ⟨a, ha, rfl⟩ : ∃ a : Nat, a < 65536 ∧ a1 = a := by
    simp only [Lit.wf, Bool.and_eq_true, decide_eq_true_eq] at h1
    have m0 : IntKind.u16.min = 0 := by kernel_rfl
    have m1 : IntKind.u16.max = 65535 := by kernel_rfl
    rw [m0, m1] at h1
    exact ⟨a1.toNat, by omega, by omega⟩
  obtain ⟨b, hb, rfl⟩ : ∃ b : Nat, b < 256 ∧ a2 = b := by
    simp only [Lit.wf, Bool.and_eq_true, decide_eq_true_eq] at h2
    have m0 : IntKind.u8.min = 0 := by kernel_rfl
    have m1 : IntKind.u8.max = 255 := by kernel_rfl
    rw [m0, m1] at h2
    exact ⟨a2.toNat, by omega, by omega⟩
  obtain ⟨m, hm, e⟩ := low_any a0
  unfold gossamerlaw8_FourMore.f
  rw [e]
  simp only [Option.bind_some]
  rw [show wrap64 (1 + (m : Int)) = ((m + 1 : Nat) : Int) by rw [wrap64_id (by omega) (by omega)]; omega]
  exact More.turns ha hb hm m 0 (by omega)
end Go.Proofs.YtamjlbbjemihiaaDoor.Pure
