/- FourForms: any number of 32 bits, spelled in any of the forms (how many parts, each to its base), with or without a dot behind, reads back to that number. For every input; nothing is assumed. -/
import Derived.Test.YtamjlbbjemihiaaDoorFourNum
import Derived.Test.YtamjlbbjemihiaaDoorPFx8
set_option linter.unusedVariables false
set_option linter.unusedSimpArgs false
namespace Go.Proofs.YtamjlbbjemihiaaDoor.Pure
open Go.RowKit Go.Proofs.YtamjlbbjemihiaaDoor.PF Go.Proofs.YtamjlbbjemihiaaDoorW.PrintWords Go.Proofs.YtamjlbbjemihiaaDoorW.PrintMore Go.Proofs.YtamjlbbjemihiaaDoorW.PrintLast Go.Proofs.YtamjlbbjemihiaaDoorK Go.Proofs.YtamjlbbjemihiaaDoorL Go.Proofs.YtamjlbbjemihiaaDoor.Four
namespace Forms
theorem and255 {x : Int} (h0 : 0 ≤ x) (h1 : x < 4294967296) : Go.bits .and .u32 x 255 = x % 256 := bits_mask .u32 32 (by decide) (fun n h0 h1 => by rw [IntKind.wrap_u32]; omega) 8 (by decide) x h0 h1
theorem Ev.ifp {α : Type} {c : Prop} [Decidable c] {f g : Nat → Option α} {r : α} (hc : c) (h : Ev f r) : Ev (fun n => if c then f n else g n) r := by
  simp only [hc, if_true]; exact h
theorem Ev.ifn {α : Type} {c : Prop} [Decidable c] {f g : Nat → Option α} {r : α} (hc : ¬ c) (h : Ev g r) : Ev (fun n => if c then f n else g n) r := by
  simp only [hc, if_false]; exact h
/-- What stands of x to the right of the first i bytes, as the law cuts it: the whole rest. -/
theorem rest_bits {x : Nat} {i : Nat} (hx : x < 4294967296) (hi : i < 4) : shr .u32 (shl .u32 (x : Int) ((8 * i : Nat) : Int)) ((8 * i : Nat) : Int) = ((x % 2 ^ (8 * (4 - i)) : Nat) : Int) := by
  unfold shr shl
  have e : min (((8 * i : Nat) : Int)).toNat IntKind.u32.bits = 8 * i := by show min (8 * i) 32 = 8 * i; omega
  rw [e, IntKind.wrap_u32]
  match i, hi with
  | 0, _ => simp <;> omega
  | 1, _ => simp <;> omega
  | 2, _ => simp <;> omega
  | 3, _ => simp <;> omega
/-- One byte of it. -/
theorem byte_bits {x : Nat} {i : Nat} (hx : x < 4294967296) (hi : i < 4) : Go.bits .and .u32 (shr .u32 (x : Int) ((8 * (3 - i) : Nat) : Int)) 255 = ((x / 2 ^ (8 * (3 - i)) % 256 : Nat) : Int) := by
  have e : shr .u32 (x : Int) ((8 * (3 - i) : Nat) : Int) = ((x / 2 ^ (8 * (3 - i)) : Nat) : Int) := by
    unfold shr
    have e : min (((8 * (3 - i) : Nat) : Int)).toNat IntKind.u32.bits = 8 * (3 - i) := by show min (8 * (3 - i)) 32 = 8 * (3 - i); omega
    rw [e, Int.natCast_ediv, Int.natCast_pow]
    rfl
  have hle : x / 2 ^ (8 * (3 - i)) ≤ x := Nat.div_le_self _ _
  rw [e]
  generalize x / 2 ^ (8 * (3 - i)) = q at *
  rw [and255 (by omega) (by omega)]
  omega
/-- The value of part i of n. -/
def val (x n i : Nat) : Nat := if i + 1 = n then x % 2 ^ (8 * (4 - i)) else x / 2 ^ (8 * (3 - i)) % 256
theorem val_bd {x n i : Nat} (hx : x < 4294967296) : val x n i < 4294967296 := by
  unfold val
  split
  · exact Nat.lt_of_le_of_lt (Nat.mod_le _ _) hx
  · exact Nat.lt_of_lt_of_le (Nat.mod_lt _ (by omega)) (by omega)
theorem form_val (z : Nat) {x n i : Nat} (hx : x < 4294967296) : numL (form z 11 (val x n i)) = (((val x n i : Nat) : Int), true) := by
  have hb := val_bd (n := n) (i := i) hx
  rw [form_num z (f := 11) (Nat.lt_of_lt_of_le hb (by decide)) (Nat.lt_of_lt_of_le hb (by decide)) (Nat.lt_of_lt_of_le hb (by decide)) (by omega)]
  congr 1
  unfold mn
  generalize val x n i = v at *
  split <;> omega
/-- How the sum stands ahead of part i. -/
def head (x i : Nat) : Nat := x / 2 ^ (8 * (4 - i))
theorem head_step {x i : Nat} (hi : i < 4) : head x i * 256 + x / 2 ^ (8 * (3 - i)) % 256 = head x (i + 1) := by
  unfold head
  match i, hi with
  | 0, _ => simp; omega
  | 1, _ => simp; omega
  | 2, _ => simp; omega
  | 3, _ => simp; omega
theorem head_last {x i : Nat} : head x i * 2 ^ (8 * (4 - i)) + x % 2 ^ (8 * (4 - i)) = x := by
  unfold head
  rw [Nat.mul_comm]
  exact Nat.div_add_mod _ _
/-- The parts ahead of part i are right so far: whatever follows is read behind the sum of theirs. -/
def Fine (x : Nat) (L : List (List UInt8)) : Prop := L.length ≤ 4 ∧ ∀ r, r ≠ [] → goP 0 (L ++ r) 0 = goP L.length r (head x L.length : Nat)
theorem good_nil {x : Nat} (hx : x < 4294967296) : Fine x [] := by
  refine ⟨by simp, fun r _ => ?_⟩
  have : head x 0 = 0 := by unfold head; exact Nat.div_eq_of_lt hx
  rw [List.length_nil, this]
  rfl
theorem good_more {x n z : Nat} {L : List (List UInt8)} (hx : x < 4294967296) (h : Fine x L) (hi : L.length < 3) (hn : L.length + 1 ≠ n) : Fine x (L ++ [form z 11 (val x n L.length)]) := by
  refine ⟨by simp; omega, fun r hr => ?_⟩
  have hv := form_val z (n := n) (i := L.length) hx
  have hb : val x n L.length = x / 2 ^ (8 * (3 - L.length)) % 256 := by unfold val; rw [if_neg hn]
  have hlt : val x n L.length < 256 := by rw [hb]; exact Nat.mod_lt _ (by omega)
  rw [List.append_assoc, h.2 _ (by simp)]
  show goP L.length (form z 11 (val x n L.length) :: r) _ = _
  rw [goP_more _ _ hr, hv, if_pos ⟨rfl, by show ((val x n L.length : Nat) : Int) < 256; omega⟩, List.length_append, List.length_singleton]
  congr 1
  show ((head x L.length : Nat) : Int) * 256 + ((val x n L.length : Nat) : Int) = _
  rw [← head_step (by omega), ← hb]
  omega
theorem good_last {x n z : Nat} {L : List (List UInt8)} (hx : x < 4294967296) (h : Fine x L) (hi : L.length < 4) (hn : L.length + 1 = n) : goP 0 (L ++ [form z 11 (val x n L.length)]) 0 = ((x : Int), true) := by
  have hv := form_val z (n := n) (i := L.length) hx
  have hb : val x n L.length = x % 2 ^ (8 * (4 - L.length)) := by unfold val; rw [if_pos hn]
  have hlt : val x n L.length < 2 ^ (8 * (4 - L.length)) := by rw [hb]; exact Nat.mod_lt _ (Nat.pow_pos (by omega))
  rw [h.2 _ (by simp), goP_last, hv, if_pos ⟨rfl, by show ((val x n L.length : Nat) : Int) < 2 ^ (8 * (4 - L.length)); exact_mod_cast hlt⟩]
  congr 1
  show ((head x L.length : Nat) : Int) * 2 ^ (8 * (4 - L.length)) + ((val x n L.length : Nat) : Int) = x
  have := head_last (x := x) (i := L.length)
  rw [← hb] at this
  exact_mod_cast this
theorem end_all {x : Nat} {T : List UInt8} {L : List (List UInt8)} {p : List UInt8} (hT : T.length ≤ 1000) (hs : splitC 46 T = L ++ [p]) (h4 : L.length < 4) (hp : p ≠ []) (he : endV p = true) (hg : goP 0 (L ++ [p]) 0 = ((x : Int), true)) (k3 : Bool) :
    (dotsL T = L ++ [p] ∧ dotsL (T ++ [46]) = L ++ [p]) ∧ parseL T = ((x : Int), true) ∧ parseL (T ++ [46]) = ((x : Int), true) ∧ endsL T = true ∧ endsL (T ++ [46]) = true := by
  have d1 : dotsL T = L ++ [p] := dots_of hs (by simp [hp])
  have d2 : dotsL (T ++ [46]) = L ++ [p] := dots_more hs
  refine ⟨⟨d1, d2⟩, ?_, ?_, ?_, ?_⟩
  · unfold parseL; rw [d1, if_neg (by simp; omega)]; exact hg
  · unfold parseL; rw [d2, if_neg (by simp; omega)]; exact hg
  · unfold endsL lastL; simp only [d1, List.getLast_append, List.getLast_singleton]; simpa using he
  · unfold endsL lastL; simp only [d2, List.getLast_append, List.getLast_singleton]; simpa using he
end Forms
open Forms
theorem forms_end {x n : Nat} {l2 : List Int} {dot : Bool} {T : List UInt8} (hT : T.length ≤ 1000) (h1 : parseL T = ((x : Int), true)) (h2 : parseL (T ++ [46]) = ((x : Int), true)) (h3 : endsL T = true) (h4 : endsL (T ++ [46]) = true) :
    Ev (fun k => gossamerlaw8_FourForms.l0 k x l2 dot n (S T) n) true := by
  refine Ev.step (f := fun k => if dot = true then (if (S T).size + 1 ≤ 9223372036854775807 then ((ip4_Parse.f k (S T ++ (⟨#[46]⟩ : ByteArray))).bind fun b => (if b.2 = true then (if b.1 = x then ((ip4_Ends.f k (S T ++ (⟨#[46]⟩ : ByteArray))).bind fun t => (if t = true then ((gossamerlaw8_awake.f k).bind fun t => some t) else some false)) else some false) else some false)) else none) else ((ip4_Parse.f k (S T)).bind fun b => (if b.2 = true then (if b.1 = x then ((ip4_Ends.f k (S T)).bind fun t => (if t = true then ((gossamerlaw8_awake.f k).bind fun t => some t) else some false)) else some false) else some false))) (fun k => by simp only [gossamerlaw8_FourForms.l0]; rw [if_neg (by omega)]) ?_
  cases dot with
  | true =>
    simp only [if_true]
    rw [show (⟨#[46]⟩ : ByteArray) = S [46] from rfl, append_S]
    refine Forms.Ev.ifp (by rw [size_S]; omega) (Ev.bind (go_parse _ (by simp; omega)) ?_)
    rw [h2]
    simp only [if_true]
    refine Ev.bind (go_ends _ (by simp; omega)) ?_
    rw [h4]
    simp only [if_true]
    exact Ev.bind awake (Ev.now _)
  | false =>
    simp only [Bool.false_eq_true, if_false]
    refine Ev.bind (go_parse _ (by omega)) ?_
    rw [h1]
    simp only [if_true]
    refine Ev.bind (go_ends _ (by omega)) ?_
    rw [h3]
    simp only [if_true]
    exact Ev.bind awake (Ev.now _)
/-- One part, its form known. -/
theorem forms_part {x n i v z : Nat} {l2 : List Int} {dot : Bool} {T : List UInt8} (hT : T.length ≤ 500) (hi : i < 4) (hz : z < 4) (hv : v < 4294967296) {r : Bool} (next : Ev (fun k => gossamerlaw8_FourForms.l0 k x l2 dot n (S (T ++ form z 11 v)) ((i + 1 : Nat) : Int)) r) :
    Ev (fun k => gossamerlaw8_FourForms.j3 k x l2 dot n (S T) i v z) r := by
  have fl := form_len z 11 v
  have d8 := law_digits (b := 8) (.inl rfl) 11 v (Nat.lt_of_lt_of_le hv (by decide)) (by omega) (by omega) hv
  have d10 := law_digits (b := 10) (.inr (.inl rfl)) 11 v (Nat.lt_of_lt_of_le hv (by decide)) (by omega) (by omega) hv
  have d16 := law_digits (b := 16) (.inr (.inr rfl)) 11 v (Nat.lt_of_lt_of_le hv (by decide)) (by omega) (by omega) hv
  have l8 := digF_len 8 11 v
  have l10 := digF_len 10 11 v
  have l16 := digF_len 16 11 v
  have w : wrap64 ((i : Int) + 1) = ((i + 1 : Nat) : Int) := by rw [wrap64_id (by omega) (by omega)]; omega
  have z0 : ((0 : Nat) : Int) = 0 := rfl
  refine Ev.step (f := fun k => if (z : Int) = 0 then ((gossamerlaw8_digits.f k v 10).bind fun t => (if (S T).size + t.size ≤ 9223372036854775807 then (gossamerlaw8_FourForms.l0 k x l2 dot n (S T ++ t) ((i + 1 : Nat) : Int)) else (none))) else (if (z : Int) = 1 then (if (S T).size + 1 ≤ 9223372036854775807 then ((gossamerlaw8_digits.f k v 8).bind fun t => (if (S T ++ (⟨#[48]⟩ : ByteArray)).size + t.size ≤ 9223372036854775807 then (gossamerlaw8_FourForms.l0 k x l2 dot n ((S T ++ (⟨#[48]⟩ : ByteArray)) ++ t) ((i + 1 : Nat) : Int)) else (none))) else (none)) else (if (z : Int) = 2 then (if (S T).size + 2 ≤ 9223372036854775807 then ((gossamerlaw8_digits.f k v 16).bind fun t => (if (S T ++ (⟨#[48, 120]⟩ : ByteArray)).size + t.size ≤ 9223372036854775807 then (gossamerlaw8_FourForms.l0 k x l2 dot n ((S T ++ (⟨#[48, 120]⟩ : ByteArray)) ++ t) ((i + 1 : Nat) : Int)) else (none))) else (none)) else (if (S T).size + 5 ≤ 9223372036854775807 then ((gossamerlaw8_digits.f k v 16).bind fun t => (if (S T ++ (⟨#[48, 88, 48, 48, 48]⟩ : ByteArray)).size + t.size ≤ 9223372036854775807 then (gossamerlaw8_FourForms.l0 k x l2 dot n ((S T ++ (⟨#[48, 88, 48, 48, 48]⟩ : ByteArray)) ++ t) ((i + 1 : Nat) : Int)) else (none))) else (none))))) (fun k => by simp only [gossamerlaw8_FourForms.j3, w]) ?_
  match z, hz with
  | 0, _ =>
    refine Forms.Ev.ifp rfl (Ev.bind d10 ?_)
    rw [append_S, size_S, size_S]
    exact Forms.Ev.ifp (by omega) next
  | 1, _ =>
    refine Forms.Ev.ifn (by omega) (Forms.Ev.ifp rfl ?_)
    rw [show (⟨#[48]⟩ : ByteArray) = S [48] from rfl, append_S]
    refine Forms.Ev.ifp (by rw [size_S]; omega) (Ev.bind d8 ?_)
    rw [append_S, size_S, size_S, List.append_assoc]
    exact Forms.Ev.ifp (by simp; omega) next
  | 2, _ =>
    refine Forms.Ev.ifn (by omega) (Forms.Ev.ifn (by omega) (Forms.Ev.ifp rfl ?_))
    rw [show (⟨#[48, 120]⟩ : ByteArray) = S [48, 120] from rfl, append_S]
    refine Forms.Ev.ifp (by rw [size_S]; omega) (Ev.bind d16 ?_)
    rw [append_S, size_S, size_S, List.append_assoc]
    exact Forms.Ev.ifp (by simp; omega) next
  | 3, _ =>
    refine Forms.Ev.ifn (by omega) (Forms.Ev.ifn (by omega) (Forms.Ev.ifn (by omega) ?_))
    rw [show (⟨#[48, 88, 48, 48, 48]⟩ : ByteArray) = S [48, 88, 48, 48, 48] from rfl, append_S]
    refine Forms.Ev.ifp (by rw [size_S]; omega) (Ev.bind d16 ?_)
    rw [append_S, size_S, size_S, List.append_assoc]
    exact Forms.Ev.ifp (by simp; omega) next
/-- One turn of the loop. -/
theorem forms_turn {x n i : Nat} {l2 : List Int} {dot : Bool} {T : List UInt8} (hx : x < 4294967296) (hn : n ≤ 4) (hi : i < n) (hT : T.length ≤ 400) {r : Bool}
    (next : ∀ z, z < 4 → Ev (fun k => gossamerlaw8_FourForms.l0 k x l2 dot n (S ((if i = 0 then T else T ++ [46]) ++ form z 11 (val x n i))) ((i + 1 : Nat) : Int)) r) :
    Ev (fun k => gossamerlaw8_FourForms.l0 k x l2 dot n (S T) i) r := by
  have hv := val_bd (n := n) (i := i) hx
  have j2 : ∀ z : Nat, z < 4 → Ev (fun k => gossamerlaw8_FourForms.j2 k x l2 dot n (S T) i (val x n i) (z : Int)) r := by
    intro z hz
    by_cases h0 : i = 0
    · refine Ev.step (f := fun k => gossamerlaw8_FourForms.j3 k x l2 dot n (S T) i (val x n i) z) (fun k => by simp only [gossamerlaw8_FourForms.j2]; rw [if_neg (by omega)]) ?_
      have := next z hz
      rw [if_pos h0] at this
      exact forms_part (by omega) (by omega) hz hv this
    · refine Ev.step (f := fun k => gossamerlaw8_FourForms.j3 k x l2 dot n (S (T ++ [46])) i (val x n i) z) (fun k => by simp only [gossamerlaw8_FourForms.j2]; rw [if_pos (by omega), if_pos (by rw [size_S]; omega), show (⟨#[46]⟩ : ByteArray) = S [46] from rfl, append_S]) ?_
      have := next z hz
      rw [if_neg h0] at this
      exact forms_part (by simp; omega) (by omega) hz hv this
  have j1 : Ev (fun k => gossamerlaw8_FourForms.j1 k x l2 dot n (S T) i (val x n i)) r := by
    by_cases hl : (i : Int) < (l2.length : Int)
    · obtain ⟨m, hm, e⟩ := low_any (rd l2 i)
      refine Ev.step (f := fun k => gossamerlaw8_FourForms.j2 k x l2 dot n (S T) i (val x n i) m) (fun k => by simp only [gossamerlaw8_FourForms.j1]; rw [if_pos hl, if_pos (by omega), e]; rfl) (j2 m hm)
    · refine Ev.step (f := fun k => gossamerlaw8_FourForms.j2 k x l2 dot n (S T) i (val x n i) (0 : Nat)) (fun k => by simp only [gossamerlaw8_FourForms.j1]; rw [if_neg hl]; rfl) (j2 0 (by omega))
  refine Ev.step (f := fun k => gossamerlaw8_FourForms.j1 k x l2 dot n (S T) i (val x n i)) (fun k => ?_) j1
  have w1 : wrap64 (8 * wrap64 (3 - (i : Int))) = ((8 * (3 - i) : Nat) : Int) := by rw [wrap64_id (x := 3 - (i : Int)) (by omega) (by omega), wrap64_id (by omega) (by omega)]; omega
  have w2 : wrap64 ((n : Int) - 1) = ((n - 1 : Nat) : Int) := by rw [wrap64_id (by omega) (by omega)]; omega
  have w3 : wrap64 (8 * (i : Int)) = ((8 * i : Nat) : Int) := by rw [wrap64_id (by omega) (by omega)]; omega
  simp only [gossamerlaw8_FourForms.l0]
  rw [if_pos (by omega), w1, w2, w3, if_pos (Int.natCast_nonneg _)]
  by_cases hlast : i + 1 = n
  · rw [if_pos (by omega), if_pos (Int.natCast_nonneg _), rest_bits hx (by omega)]
    unfold val
    rw [if_pos hlast]
  · rw [if_neg (by omega), byte_bits hx (by omega)]
    unfold val
    rw [if_neg hlast]
/-- The loop from part i on. -/
theorem forms_from {x n : Nat} {l2 : List Int} {dot : Bool} (hx : x < 4294967296) (hn : n ≤ 4) : ∀ (m i : Nat) (T : List UInt8) (L : List (List UInt8)), m + i = n → 0 < m → L.length = i → Fine x L → T.length ≤ 20 * i → (i = 0 → T = []) → (i ≠ 0 → splitC 46 T = L) →
    Ev (fun k => gossamerlaw8_FourForms.l0 k x l2 dot n (S T) i) true
  | 0, _, _, _, _, h, _, _, _, _, _ => absurd h (by omega)
  | m + 1, i, T, L, hm, _, hL, hg, hT, h0, hs => by
    refine forms_turn hx hn (by omega) (by omega) fun z hz => ?_
    have fl := form_len z 11 (val x n i)
    have hsp : splitC 46 ((if i = 0 then T else T ++ [46]) ++ form z 11 (val x n i)) = L ++ [form z 11 (val x n i)] := by
      by_cases hi : i = 0
      · rw [if_pos hi, h0 hi, List.nil_append, splitC_none (form_dot _ _ _)]
        rw [hi] at hL
        rw [List.eq_nil_of_length_eq_zero hL]
        rfl
      · rw [if_neg hi, List.append_assoc]
        show splitC 46 (T ++ 46 :: form z 11 (val x n i)) = _
        rw [splitC_more _ (form_dot _ _ _), hs hi]
    have hlen : ((if i = 0 then T else T ++ [46]) ++ form z 11 (val x n i)).length ≤ 20 * (i + 1) := by
      split <;> simp <;> omega
    generalize ((if i = 0 then T else T ++ [46]) ++ form z 11 (val x n i)) = T' at hsp hlen
    by_cases hlast : m = 0
    · subst hlast
      subst hL
      have hg2 := good_last (n := n) (z := z) hx hg (by omega) (by omega)
      obtain ⟨_, p1, p2, p3, p4⟩ := end_all (by omega) hsp (by omega) (form_ne z (by omega)) (form_end z (by omega)) hg2 true
      rw [show L.length + 1 = n by omega]
      exact forms_end (by omega) p1 p2 p3 p4
    · subst hL
      exact forms_from hx hn m (L.length + 1) T' _ (by omega) (by omega) (by simp) (good_more (n := n) (z := z) hx hg (by omega) (by omega)) (by omega) (by omega) (fun _ => hsp)
theorem FourForms : gossamerlaw8_FourForms.Pure := by
  intro x a1 l2 dot hx _ _ _ _
  refine Ev.rounds (r := true) ?_
  obtain ⟨h0, h1⟩ : 0 ≤ x ∧ x < 4294967296 := by
    have := hx
    simp only [Lit.wf, Bool.and_eq_true, decide_eq_true_eq] at this
    have m0 : IntKind.u32.min = 0 := by kernel_rfl
    have m1 : IntKind.u32.max = 4294967295 := by kernel_rfl
    rw [m0, m1] at this
    omega
  obtain ⟨x, rfl⟩ := Int.eq_ofNat_of_zero_le h0
  obtain ⟨m, hm, e⟩ := low_any a1
  unfold gossamerlaw8_FourForms.f
  rw [e]
  simp only [Option.bind_some]
  rw [show wrap64 (1 + (m : Int)) = ((m + 1 : Nat) : Int) by rw [wrap64_id (by omega) (by omega)]; omega]
  exact forms_from (by omega) (by omega) (m + 1) 0 [] [] (by omega) (by omega) rfl (good_nil (by omega)) (by simp) (fun _ => rfl) (fun h => absurd rfl h)
end Go.Proofs.YtamjlbbjemihiaaDoor.Pure
