/- Four numbers with dots: the text of an address of four bytes, what is one, and what ip6 and the document read in it. -/
import Derived.Test.YtcpfhnodbgojaaaDoorSixGo
import Derived.Test.YtcpfhnodbgojaaaDoorFourGoNum
set_option linter.unusedVariables false
set_option linter.unusedSimpArgs false
namespace Go.Proofs.YtcpfhnodbgojaaaDoor.Six
open Go.RowKit Go.Proofs.YtcpfhnodbgojaaaDoor.PF Go.Proofs.YtcpfhnodbgojaaaDoorW.PrintWords Go.Proofs.YtcpfhnodbgojaaaDoorW.PrintMore Go.Proofs.YtcpfhnodbgojaaaDoorW.PrintLast Go.Proofs.YtcpfhnodbgojaaaDoorK Go.Proofs.YtcpfhnodbgojaaaDoorL Go.Proofs.YtcpfhnodbgojaaaDoor.Four
theorem and255 {x : Int} (h0 : 0 ≤ x) (h1 : x < 4294967296) : Go.bits .and .u32 x 255 = x % 256 := bits_mask .u32 32 (by decide) (fun n h0 h1 => by rw [IntKind.wrap_u32]; omega) 8 (by decide) x h0 h1
/-- A byte's part. -/
def part (n : Nat) : List UInt8 := digF 10 4 n
theorem itoa_byte {n : Nat} (h : n < 256) : strconv_Itoa.f (n : Int) = some (S (part n)) := by
  unfold strconv_Itoa.f
  rw [if_pos (by omega), if_pos (by omega), dec_byte ⟨n, h⟩]
  rfl
def text (a b c d : Nat) : List UInt8 := part a ++ 46 :: (part b ++ 46 :: (part c ++ 46 :: part d))
theorem part_len (n : Nat) : (part n).length ≤ 4 := digF_len 10 4 n
theorem show_go {a b c d : Nat} {x : Int} (ha : a < 256) (hb : b < 256) (hc : c < 256) (hd : d < 256) (hx : x = (((a : Int) * 256 + b) * 256 + c) * 256 + d) :
    Ev (fun k => ip4_Show.f k x) (S (text a b c d)) := by
  have go : ∀ (k : Nat) (i : Nat) (e : Nat) (acc : List ByteArray), e < 256 → i < 32 → acc.length ≤ 3 → 0 ≤ x / 2 ^ i → x / 2 ^ i < 4294967296 → x / 2 ^ i % 256 = (e : Int) →
      ip4_Show.l0 (k + 1) x acc i = ip4_Show.l0 k x (acc ++ [S (part e)]) ((i : Int) - 8) := by
    intro k i e acc he hi hacc hq0 hq1 hval
    have e1 : shr .u32 x (i : Int) = x / 2 ^ i := by
      unfold shr
      rw [show min ((i : Int)).toNat (IntKind.u32.bits) = i from by show min i 32 = i; omega]
    simp only [ip4_Show.l0]
    rw [if_pos (by omega), if_pos (by omega), e1, and255 hq0 hq1, hval]
    rw [show wrap64 (e : Int) = (e : Int) from wrap64_id (by omega) (by omega)]
    rw [itoa_byte he]
    simp only [Option.bind_some]
    rw [if_pos (by omega), wrap64_id (by omega) (by omega)]
  have last : ∀ k (acc : List ByteArray), ip4_Show.l0 (k + 1) x acc (-8) = (strings_Join.f acc (⟨#[46]⟩ : ByteArray)).bind fun t => some t := by
    intro k acc
    simp only [ip4_Show.l0]
    rw [if_neg (by omega)]
  refine Ev.of (g := fun k => ip4_Show.f k x) (fun k => ip4_Show.mono _ k) (k := 5) ?_
  unfold ip4_Show.f
  have g1 := go 4 24 a [] ha (by omega) (by simp) (by omega) (by omega) (by omega)
  have g2 := go 3 16 b [S (part a)] hb (by omega) (by simp) (by omega) (by omega) (by omega)
  have g3 := go 2 8 c [S (part a), S (part b)] hc (by omega) (by simp) (by omega) (by omega) (by omega)
  have g4 := go 1 0 d [S (part a), S (part b), S (part c)] hd (by omega) (by simp) (by omega) (by omega) (by omega)
  have g5 := last 0 [S (part a), S (part b), S (part c), S (part d)]
  have h1 := part_len a
  have h2 := part_len b
  have h3 := part_len c
  have h4 := part_len d
  refine g1.trans (g2.trans (g3.trans (g4.trans (g5.trans ?_))))
  unfold strings_Join.f
  have e : Lib.join ([S (part a), S (part b), S (part c), S (part d)].map (·.data.toList)) (⟨#[46]⟩ : ByteArray).data.toList = text a b c d := by
    show Lib.join [part a, part b, part c, part d] [46] = text a b c d
    rw [Lib.join_cons]
    simp [Lib.joinTail, text]
  rw [e, if_pos (by simp [text]; omega), if_pos (by simp)]
  rfl
theorem part_num {n : Nat} (h : n < 256) : numL (part n) = ((n : Int), true) := by
  have := form_num 0 (f := 4) (n := n) (by omega) (by omega) (by omega) (by omega)
  show numL (form 0 4 n) = _
  rw [this]
  congr 1
  unfold mn
  split <;> omega
theorem text_dots (a b c d : Nat) : dotsL (text a b c d) = [part a, part b, part c, part d] := by
  have dot : ∀ n, (46 : UInt8) ∉ part n := fun n => digF_dot (.inr (.inl rfl)) 4 n
  refine dots_of ?_ ?_
  · unfold text
    rw [splitC_split (dot a), splitC_split (dot b), splitC_split (dot c), splitC_none (dot d)]
  · have : part d ≠ [] := digF_ne (b := 10) (n := d) (f := 4) (by omega)
    simpa using this
/-! ### What four numbers are -/
def dig (c : UInt8) : Bool := decide (48 ≤ c.toNat ∧ c.toNat ≤ 57)
def decF : List UInt8 → Int → Option Int
  | [], n => some n
  | c :: t, n => if dig c = true then decF t (n * 10 + ((c.toNat : Int) - 48)) else none
def oct (t : List UInt8) : Option Int := if t.length < 1 ∨ 3 < t.length ∨ (1 < t.length ∧ t.head? = some 48) then none else match decF t 0 with
  | some v => if 255 < v then none else some v
  | none => none
def fourL (l : List UInt8) : Option (Int × Int) := match splitC 46 l with
  | [p, q, r, s] => (oct p).bind fun a => (oct q).bind fun b => (oct r).bind fun c => (oct s).map fun d => (a * 256 + b, c * 256 + d)
  | _ => none
theorem oct_part : ∀ n : Fin 256, oct (part n.val) = some (n.val : Int) := by decide +kernel
def dg (i : Nat) : UInt8 := UInt8.ofNat (48 + i)
theorem dig_of {c : UInt8} (h : dig c = true) : ∃ i : Fin 10, c = dg i.val := by
  unfold dig at h
  have h := of_decide_eq_true h
  refine ⟨⟨c.toNat - 48, by omega⟩, ?_⟩
  unfold dg
  apply UInt8.toNat_inj.1
  rw [UInt8.toNat_ofNat_of_lt' (by simp [UInt8.size]; omega)]
  simp only []
  omega
def octT (t : List UInt8) : Bool := match oct t with | some v => decide (0 ≤ v ∧ v < 256 ∧ t = part v.toNat) | none => true
theorem oct1 : ∀ i : Fin 10, octT [dg i.val] = true := by decide +kernel
theorem oct2 : ∀ i j : Fin 10, octT [dg i.val, dg j.val] = true := by decide +kernel
theorem oct3 : ∀ i j k : Fin 10, octT [dg i.val, dg j.val, dg k.val] = true := by decide +kernel
theorem decF_dig : ∀ (t : List UInt8) (n v : Int), decF t n = some v → ∀ c ∈ t, dig c = true
  | [], _, _, _, c, hc => by cases hc
  | x :: t, n, v, h, c, hc => by
    rw [decF] at h
    split at h
    · rename_i hx
      rcases List.mem_cons.1 hc with rfl | hc
      · exact hx
      · exact decF_dig t _ v h c hc
    · cases h
theorem oct_is {t : List UInt8} {v : Int} (h : oct t = some v) : ∃ n : Nat, n < 256 ∧ v = (n : Int) ∧ t = part n := by
  have hh := h
  unfold oct at h
  split at h
  · cases h
  · rename_i hl
    have hd : ∀ c ∈ t, dig c = true := by
      cases hv : decF t 0 with
      | none => rw [hv] at h; cases h
      | some w => exact decF_dig t 0 w hv
    have ht : octT t = true := by
      match t, hl, hd with
      | [], hl, _ => exact absurd (.inl (by simp)) hl
      | [a], _, hd => obtain ⟨i, rfl⟩ := dig_of (hd a (by simp)); exact oct1 i
      | [a, b], _, hd => obtain ⟨i, rfl⟩ := dig_of (hd a (by simp)); obtain ⟨j, rfl⟩ := dig_of (hd b (by simp)); exact oct2 i j
      | [a, b, c], _, hd => obtain ⟨i, rfl⟩ := dig_of (hd a (by simp)); obtain ⟨j, rfl⟩ := dig_of (hd b (by simp)); obtain ⟨k, rfl⟩ := dig_of (hd c (by simp)); exact oct3 i j k
      | a :: b :: c :: d :: r, hl, _ => exact absurd (.inr (.inl (by simp))) hl
    unfold octT at ht
    rw [hh] at ht
    obtain ⟨h0, h1, h2⟩ := of_decide_eq_true ht
    exact ⟨v.toNat, by omega, by omega, h2⟩
theorem split_join {c : UInt8} : ∀ (l p : List UInt8) (L : List (List UInt8)), splitC c l = p :: L → (L = [] ∧ l = p) ∨ ∃ r, l = p ++ c :: r ∧ splitC c r = L
  | [], p, L, h => by
    left
    injection h with h1 h2
    exact ⟨h2.symm, h1⟩
  | x :: l, p, L, h => by
    by_cases hx : x = c
    · subst hx
      rw [splitC_hit] at h
      injection h with h1 h2
      right
      exact ⟨l, by rw [← h1]; rfl, h2⟩
    · rw [splitC_miss _ hx] at h
      cases hs : splitC c l with
      | nil => exact absurd hs (splitC_ne _ _)
      | cons q M =>
        rw [hs] at h
        injection h with h1 h2
        subst h1 h2
        rcases split_join l q M hs with ⟨e1, e2⟩ | ⟨r, e1, e2⟩
        · left; exact ⟨e1, by rw [e2]⟩
        · right; exact ⟨r, by rw [e1]; rfl, e2⟩
theorem text_split (a b c d : Nat) : splitC 46 (text a b c d) = [part a, part b, part c, part d] := by
  have dot : ∀ n, (46 : UInt8) ∉ part n := fun n => digF_dot (.inr (.inl rfl)) 4 n
  unfold text
  rw [splitC_split (dot a), splitC_split (dot b), splitC_split (dot c), splitC_none (dot d)]
theorem four_text {a b c d : Nat} (ha : a < 256) (hb : b < 256) (hc : c < 256) (hd : d < 256) : fourL (text a b c d) = some ((a : Int) * 256 + b, (c : Int) * 256 + d) := by
  unfold fourL
  rw [text_split]
  simp only []
  have e1 : oct (part a) = some (a : Int) := oct_part ⟨a, ha⟩
  have e2 : oct (part b) = some (b : Int) := oct_part ⟨b, hb⟩
  have e3 : oct (part c) = some (c : Int) := oct_part ⟨c, hc⟩
  have e4 : oct (part d) = some (d : Int) := oct_part ⟨d, hd⟩
  rw [e1, e2, e3, e4]
  rfl
theorem four_is {l : List UInt8} {x : Int × Int} (h : fourL l = some x) : ∃ a b c d : Nat, a < 256 ∧ b < 256 ∧ c < 256 ∧ d < 256 ∧ l = text a b c d := by
  unfold fourL at h
  split at h
  · rename_i p q r s hs
    obtain ⟨va, hp, h⟩ := Option.bind_eq_some_iff.1 h
    obtain ⟨vb, hq, h⟩ := Option.bind_eq_some_iff.1 h
    obtain ⟨vc, hr, h⟩ := Option.bind_eq_some_iff.1 h
    obtain ⟨vd, hs', h⟩ := Option.map_eq_some_iff.1 h
    obtain ⟨a, ha, _, rfl⟩ := oct_is hp
    obtain ⟨b, hb, _, rfl⟩ := oct_is hq
    obtain ⟨c, hc, _, rfl⟩ := oct_is hr
    obtain ⟨d, hd, _, rfl⟩ := oct_is hs'
    refine ⟨a, b, c, d, ha, hb, hc, hd, ?_⟩
    rcases split_join l _ _ hs with ⟨e, _⟩ | ⟨l1, rfl, h1⟩
    · cases e
    rcases split_join l1 _ _ h1 with ⟨e, _⟩ | ⟨l2, rfl, h2⟩
    · cases e
    rcases split_join l2 _ _ h2 with ⟨e, _⟩ | ⟨l3, rfl, h3⟩
    · cases e
    rcases split_join l3 _ _ h3 with ⟨_, rfl⟩ | ⟨l4, rfl, h4⟩
    · rfl
    · exact absurd h4 (splitC_ne _ _)
  · cases h
theorem text_parse {a b c d : Nat} (ha : a < 256) (hb : b < 256) (hc : c < 256) (hd : d < 256) : parseL (text a b c d) = ((((a : Int) * 256 + b) * 256 + c) * 256 + d, true) := by
  unfold parseL
  rw [text_dots]
  rw [if_neg (by simp), goP_more _ _ (by simp), part_num ha, if_pos ⟨rfl, by show (a : Int) < 256; omega⟩, goP_more _ _ (by simp), part_num hb, if_pos ⟨rfl, by show (b : Int) < 256; omega⟩, goP_more _ _ (by simp), part_num hc, if_pos ⟨rfl, by show (c : Int) < 256; omega⟩, goP_last, part_num hd, if_pos ⟨rfl, by show (d : Int) < 256; omega⟩]
  have e : (((0 * 256 + (a : Int)) * 256 + b) * 256 + c) * 256 + d = (((a : Int) * 256 + b) * 256 + c) * 256 + d := by omega
  exact congrArg (fun z : Int => (z, true)) e
theorem parse_bd (l : List UInt8) : 0 ≤ (parseL l).1 ∧ (parseL l).1 < 4294967296 := by
  unfold parseL
  split
  · exact ⟨by decide, by decide⟩
  · rename_i h
    exact goP_bd (dotsL l) 0 0 (by omega) (by omega) (fun _ => by decide) (fun _ => by decide)
theorem quart {x : Int} (h0 : 0 ≤ x) (h1 : x < 4294967296) : ∃ a b c d : Nat, a < 256 ∧ b < 256 ∧ c < 256 ∧ d < 256 ∧ x = (((a : Int) * 256 + b) * 256 + c) * 256 + d :=
  ⟨(x / 16777216).toNat, (x / 65536 % 256).toNat, (x / 256 % 256).toNat, (x % 256).toNat, by omega, by omega, by omega, by omega, by omega⟩
theorem go_four (l : List UInt8) (hl : l.length ≤ 200) : Ev (fun k => ip6_four.f k (S l)) (fourV fourL l) := by
  unfold ip6_four.f
  refine Ev.bind (go_parse l (by omega)) ?_
  obtain ⟨h0, h1⟩ := parse_bd l
  cases hp : parseL l with
  | mk x ok =>
    rw [hp] at h0 h1
    dsimp only at h0 h1 ⊢
    cases ok with
    | false =>
      have : fourL l = none := by
        cases hf : fourL l with
        | none => rfl
        | some y =>
          obtain ⟨a, b, c, d, ha, hb, hc, hd, rfl⟩ := four_is hf
          rw [text_parse ha hb hc hd] at hp
          cases hp
      unfold fourV
      rw [this]
      exact Ev.now _
    | true =>
      obtain ⟨a, b, c, d, ha, hb, hc, hd, hx⟩ := quart h0 h1
      simp only [if_true]
      refine Ev.bind (show_go ha hb hc hd hx) ?_
      rw [toList_S, toList_S]
      by_cases ht : text a b c d = l
      · subst ht
        simp only [if_true]
        have e1 : IntKind.u16.wrap (x / 65536) = (a : Int) * 256 + b := by rw [IntKind.wrap_u16]; omega
        have e2 : IntKind.u16.wrap x = (c : Int) * 256 + d := by rw [IntKind.wrap_u16]; omega
        unfold fourV
        rw [four_text ha hb hc hd, e1, e2]
        exact Ev.now _
      · have : fourL l = none := by
          cases hf : fourL l with
          | none => rfl
          | some y =>
            obtain ⟨a', b', c', d', ha', hb', hc', hd', rfl⟩ := four_is hf
            rw [text_parse ha' hb' hc' hd'] at hp
            injection hp with hp _
            exfalso
            apply ht
            have e1 : a = a' := by omega
            have e2 : b = b' := by omega
            have e3 : c = c' := by omega
            have e4 : d = d' := by omega
            rw [e1, e2, e3, e4]
        simp only [if_neg ht]
        unfold fourV
        rw [this]
        exact Ev.now _
/-! ### It is as SixPlain wants it -/
theorem part_head : ∀ n : Fin 256, part n.val ≠ [] ∧ (part n.val).all hexd = true ∧ (part n.val).length ≤ 3 := by decide +kernel
theorem fours : Fours fourL where
  colon := fun l x h => by
    obtain ⟨a, b, c, d, ha, hb, hc, hd, rfl⟩ := four_is h
    have no : ∀ n, n < 256 → (58 : UInt8) ∉ part n := fun n hn hm => by
      have := List.all_eq_true.1 (part_head ⟨n, hn⟩).2.1 _ hm
      rw [hexd_58] at this
      cases this
    have h1 := no a ha
    have h2 := no b hb
    have h3 := no c hc
    have h4 := no d hd
    simp [text, h1, h2, h3, h4]
  dot := fun l x h => by
    obtain ⟨a, b, c, d, ha, hb, hc, hd, rfl⟩ := four_is h
    obtain ⟨h1, h2, h3⟩ : part a ≠ [] ∧ (part a).all hexd = true ∧ (part a).length ≤ 3 := part_head ⟨a, ha⟩
    have e : hx (text a b c d) = part a := by
      unfold hx text
      rw [List.take_append, List.take_of_length_le (by omega), List.takeWhile_append_of_pos (by intro z hz; exact List.all_eq_true.1 h2 z hz)]
      have : 4 - (part a).length = (4 - (part a).length - 1) + 1 := by omega
      rw [this, List.take_succ_cons, List.takeWhile_cons, hexd_46]
      simp
    rw [e]
    exact ⟨h1, _, by unfold text; exact List.drop_left⟩
end Go.Proofs.YtcpfhnodbgojaaaDoor.Six
