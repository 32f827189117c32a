/- FourBack: of any number of 32 bits, what ip4 shows is the document's own answer, and it reads back to that number. For every input; nothing is assumed. -/
import Derived.Test.YtamjlbbjemihiaaDoorFourNum
set_option linter.unusedVariables false
set_option linter.unusedSimpArgs false
namespace Go.Proofs.YtamjlbbjemihiaaDoor.Pure
open Go.RowKit Go.Proofs.YtamjlbbjemihiaaDoor.PF Go.Proofs.YtamjlbbjemihiaaDoorW.PrintWords Go.Proofs.YtamjlbbjemihiaaDoorW.PrintMore Go.Proofs.YtamjlbbjemihiaaDoorW.PrintLast Go.Proofs.YtamjlbbjemihiaaDoorK Go.Proofs.YtamjlbbjemihiaaDoorL Go.Proofs.YtamjlbbjemihiaaDoor.Four
theorem and255 {x : Int} (h0 : 0 ≤ x) (h1 : x < 4294967296) : Go.bits .and .u32 x 255 = x % 256 := bits_mask .u32 32 (by decide) (fun n h0 h1 => by rw [IntKind.wrap_u32]; omega) 8 (by decide) x h0 h1
/-- A byte's part. -/
def part (n : Nat) : List UInt8 := digF 10 4 n
theorem itoa_byte {n : Nat} (h : n < 256) : strconv_Itoa.f (n : Int) = some (S (part n)) := by
  unfold strconv_Itoa.f
  rw [if_pos (by omega), if_pos (by omega), dec_byte ⟨n, h⟩]
  rfl
theorem refdig_byte {n : Nat} (h : n < 256) : Ev (fun k => gossamerref8_Digits.f k (n : Int)) (S (part n)) := by
  have e := ref_byte ⟨n, h⟩
  cases hd : gossamerref8_Digits.f 5 (n : Int) with
  | none => rw [hd] at e; simp at e
  | some s =>
    rw [hd] at e
    obtain ⟨l, rfl⟩ := S_of s
    have : l = part n := by unfold part; simpa [data_S] using e
    subst this
    exact Ev.of (g := fun k => gossamerref8_Digits.f k (n : Int)) (fun k => gossamerref8_Digits.mono _ k) hd
def text (a b c d : Nat) : List UInt8 := part a ++ 46 :: (part b ++ 46 :: (part c ++ 46 :: part d))
theorem part_len (n : Nat) : (part n).length ≤ 4 := digF_len 10 4 n
theorem Ev.ifp {α : Type} {c : Prop} [Decidable c] {f g : Nat → Option α} {r : α} (hc : c) (h : Ev f r) : Ev (fun n => if c then f n else g n) r := by
  simp only [hc, if_true]; exact h
theorem show_go {a b c d : Nat} {x : Int} (ha : a < 256) (hb : b < 256) (hc : c < 256) (hd : d < 256) (hx : x = (((a : Int) * 256 + b) * 256 + c) * 256 + d) :
    Ev (fun k => ip4_Show.f k x) (S (text a b c d)) := by
  have go : ∀ (k : Nat) (i : Nat) (e : Nat) (acc : List ByteArray), e < 256 → i < 32 → acc.length ≤ 3 → 0 ≤ x / 2 ^ i → x / 2 ^ i < 4294967296 → x / 2 ^ i % 256 = (e : Int) →
      ip4_Show.l0 (k + 1) x acc i = ip4_Show.l0 k x (acc ++ [S (part e)]) ((i : Int) - 8) := by
    intro k i e acc he hi hacc hq0 hq1 hval
    have e1 : shr .u32 x (i : Int) = x / 2 ^ i := by
      unfold shr
      rw [show min ((i : Int)).toNat (IntKind.u32.bits) = i from by show min i 32 = i; omega]
    simp only [ip4_Show.l0]
    rw [if_pos (by omega), if_pos (by omega), e1, and255 hq0 hq1, hval]
    rw [show wrap64 (e : Int) = (e : Int) from wrap64_id (by omega) (by omega)]
    rw [itoa_byte he]
    simp only [Option.bind_some]
    rw [if_pos (by omega), wrap64_id (by omega) (by omega)]
  have last : ∀ k (acc : List ByteArray), ip4_Show.l0 (k + 1) x acc (-8) = (strings_Join.f acc (⟨#[46]⟩ : ByteArray)).bind fun t => some t := by
    intro k acc
    simp only [ip4_Show.l0]
    rw [if_neg (by omega)]
  refine Ev.of (g := fun k => ip4_Show.f k x) (fun k => ip4_Show.mono _ k) (k := 5) ?_
  unfold ip4_Show.f
  have g1 := go 4 24 a [] ha (by omega) (by simp) (by omega) (by omega) (by omega)
  have g2 := go 3 16 b [S (part a)] hb (by omega) (by simp) (by omega) (by omega) (by omega)
  have g3 := go 2 8 c [S (part a), S (part b)] hc (by omega) (by simp) (by omega) (by omega) (by omega)
  have g4 := go 1 0 d [S (part a), S (part b), S (part c)] hd (by omega) (by simp) (by omega) (by omega) (by omega)
  have g5 := last 0 [S (part a), S (part b), S (part c), S (part d)]
  have h1 := part_len a
  have h2 := part_len b
  have h3 := part_len c
  have h4 := part_len d
  refine g1.trans (g2.trans (g3.trans (g4.trans (g5.trans ?_))))
  unfold strings_Join.f
  have e : Lib.join ([S (part a), S (part b), S (part c), S (part d)].map (·.data.toList)) (⟨#[46]⟩ : ByteArray).data.toList = text a b c d := by
    show Lib.join [part a, part b, part c, part d] [46] = text a b c d
    rw [Lib.join_cons]
    simp [Lib.joinTail, text]
  rw [e, if_pos (by simp [text]; omega), if_pos (by simp)]
  rfl
theorem byte_word {y : Int} {n : Nat} (h : n < 256) (h0 : 0 ≤ y) (h1 : y < 4294967296) (e : y % 256 = n) : wrap64 (Go.bits .and .u32 y 255) = n := by
  rw [and255 h0 h1, e]
  exact wrap64_id (by omega) (by omega)
theorem words {a b c d : Nat} {x : Int} (ha : a < 256) (hb : b < 256) (hc : c < 256) (hd : d < 256) (hx : x = (((a : Int) * 256 + b) * 256 + c) * 256 + d) :
    wrap64 (x / 16777216) = (a : Int) ∧ wrap64 (Go.bits .and .u32 (x / 65536) 255) = (b : Int) ∧ wrap64 (Go.bits .and .u32 (x / 256) 255) = (c : Int) ∧ wrap64 (Go.bits .and .u32 x 255) = (d : Int) := by
  have q1 : x / 16777216 = (a : Int) := by omega
  have q2 : x / 65536 = (a : Int) * 256 + b := by clear q1; omega
  have q3 : x / 256 = ((a : Int) * 256 + b) * 256 + c := by clear q1 q2; omega
  rw [q1, q2, q3]
  clear q1 q2 q3
  refine ⟨wrap64_id (by omega) (by omega), byte_word hb ?_ ?_ ?_, byte_word hc ?_ ?_ ?_, byte_word hd ?_ ?_ ?_⟩
  · clear hx; omega
  · clear hx; omega
  · clear hx; omega
  · clear hx; omega
  · clear hx; omega
  · clear hx; omega
  · omega
  · omega
  · subst hx; omega
theorem show_ref {a b c d : Nat} {x : Int} (ha : a < 256) (hb : b < 256) (hc : c < 256) (hd : d < 256) (hx : x = (((a : Int) * 256 + b) * 256 + c) * 256 + d) :
    Ev (fun k => gossamerref8_Show.f k x) (S (text a b c d)) := by
  have h1 := part_len a
  have h2 := part_len b
  have h3 := part_len c
  have h4 := part_len d
  obtain ⟨e1, e2, e3, e4⟩ := words ha hb hc hd hx
  clear hx
  unfold gossamerref8_Show.f
  rw [e1, e2, e3, e4, show (⟨#[46]⟩ : ByteArray) = S [46] from rfl]
  clear e1 e2 e3 e4
  refine Ev.bind (refdig_byte ha) (Ev.ifp (by rw [size_S]; omega) (Ev.bind (refdig_byte hb) ?_))
  simp only [append_S, size_S, List.length_append]
  refine Ev.ifp (by simp; omega) (Ev.ifp (by simp; omega) (Ev.bind (refdig_byte hc) ?_))
  simp only [append_S, size_S, List.length_append]
  refine Ev.ifp (by simp; omega) (Ev.ifp (by simp; omega) (Ev.bind (refdig_byte hd) ?_))
  simp only [append_S, size_S, List.length_append]
  refine Ev.ifp (by simp; omega) ?_
  rw [show part a ++ [46] ++ part b ++ [46] ++ part c ++ [46] ++ part d = text a b c d from by simp [text]]
  exact Ev.now _
theorem part_num {n : Nat} (h : n < 256) : numL (part n) = ((n : Int), true) := by
  have := form_num 0 (f := 4) (n := n) (by omega) (by omega) (by omega) (by omega)
  show numL (form 0 4 n) = _
  rw [this]
  congr 1
  unfold mn
  split <;> omega
theorem text_dots (a b c d : Nat) : dotsL (text a b c d) = [part a, part b, part c, part d] := by
  have dot : ∀ n, (46 : UInt8) ∉ part n := fun n => digF_dot (.inr (.inl rfl)) 4 n
  refine dots_of ?_ ?_
  · unfold text
    rw [splitC_split (dot a), splitC_split (dot b), splitC_split (dot c), splitC_none (dot d)]
  · have : part d ≠ [] := digF_ne (b := 10) (n := d) (f := 4) (by omega)
    simpa using this
theorem FourBack : gossamerlaw8_FourBack.Pure := by
  intro x hx
  refine Ev.rounds (r := true) ?_
  obtain ⟨h0, h1⟩ : 0 ≤ x ∧ x < 4294967296 := by
    have := hx
    simp only [Lit.wf, Bool.and_eq_true, decide_eq_true_eq] at this
    have m0 : IntKind.u32.min = 0 := by kernel_rfl
    have m1 : IntKind.u32.max = 4294967295 := by kernel_rfl
    rw [m0, m1] at this
    omega
  obtain ⟨a, b, c, d, ha, hb, hc, hd, hx⟩ : ∃ a b c d : Nat, a < 256 ∧ b < 256 ∧ c < 256 ∧ d < 256 ∧ x = (((a : Int) * 256 + b) * 256 + c) * 256 + d :=
    ⟨(x / 16777216).toNat, (x / 65536 % 256).toNat, (x / 256 % 256).toNat, (x % 256).toNat, by omega, by omega, by omega, by omega, by omega⟩
  have hl : (text a b c d).length ≤ 100000 := by
    have h1 := part_len a
    have h2 := part_len b
    have h3 := part_len c
    have h4 := part_len d
    simp [text]; omega
  unfold gossamerlaw8_FourBack.f
  refine Ev.bind (show_go ha hb hc hd hx) (Ev.bind (go_parse _ hl) (Ev.bind (show_ref ha hb hc hd hx) ?_))
  have e : parseL (text a b c d) = (x, true) := by
    unfold parseL
    rw [text_dots]
    rw [if_neg (by simp), goP_more _ _ (by simp), part_num ha, if_pos ⟨rfl, by show (a : Int) < 256; omega⟩, goP_more _ _ (by simp), part_num hb, if_pos ⟨rfl, by show (b : Int) < 256; omega⟩, goP_more _ _ (by simp), part_num hc, if_pos ⟨rfl, by show (c : Int) < 256; omega⟩, goP_last, part_num hd, if_pos ⟨rfl, by show (d : Int) < 256; omega⟩]
    congr 1
    show (((0 * 256 + (a : Int)) * 256 + b) * 256 + c) * 256 + d = _
    omega
  rw [e]
  simp only [if_true]
  have he : endsL (text a b c d) = true := by
    unfold endsL lastL
    simp only [text_dots]
    exact form_end 0 (f := 4) (n := d) (by omega)
  refine Ev.bind (go_ends _ hl) ?_
  rw [he]
  simp only [if_true]
  exact Ev.bind awake (Ev.now _)
end Go.Proofs.YtamjlbbjemihiaaDoor.Pure
