/- Addresses of eight pieces: what the program's steps and the document's rows come to: the same. No program. -/
import Derived.Test.YtcpfhnodbgojaaaDoorFourGo
set_option linter.unusedVariables false
set_option linter.unusedSimpArgs false
namespace Go.Proofs.YtcpfhnodbgojaaaDoor.Six
open Go.Proofs.YtcpfhnodbgojaaaDoor.Four

def hexd (c : UInt8) : Bool := decide (dv c < 16)
def val (t : List UInt8) : Int := t.foldl (fun n c => n * 16 + dv c) 0
def pieceL (t : List UInt8) : Option Int := if t ≠ [] ∧ t.length ≤ 4 ∧ t.all hexd = true then some (val t) else none
def Z : List Int × Bool := ([0, 0, 0, 0, 0, 0, 0, 0], false)
section
variable (four : List UInt8 → Option (Int × Int))
def rowL : List (List UInt8) → Bool → Option (List Int)
  | [], _ => some []
  | [t], last => if last = true then (match four t with | some (a, b) => some [a, b] | none => (pieceL t).map fun n => [n]) else (pieceL t).map fun n => [n]
  | t :: r, last => (pieceL t).bind fun n => (rowL r last).map fun L => n :: L
def firstDD : List UInt8 → Option (List UInt8 × List UInt8)
  | [] => none
  | [_] => none
  | c :: d :: r => if c = 58 ∧ d = 58 then some ([], r) else (firstDD (d :: r)).map fun p => (c :: p.1, p.2)
def fin (acc : List Int) (gap : Option Nat) : List Int × Bool := match gap with
  | none => if acc.length = 8 then (acc, true) else Z
  | some g => (acc.take g ++ List.replicate (8 - (acc.length - 1)) 0 ++ acc.drop (g + 1), true)
def hx (l : List UInt8) : List UInt8 := (l.take 4).takeWhile hexd
def colon (k : List UInt8 → List Int → Option Nat → List Int × Bool) (acc : List Int) (gap : Option Nat) : List UInt8 → List Int × Bool
  | 58 :: r2 => if gap.isSome = true ∨ acc.length = 8 then Z else if r2 = [] then fin (acc ++ [0]) (some acc.length) else k r2 (acc ++ [0]) (some acc.length)
  | r => k r acc gap
def behind (k : List UInt8 → List Int → Option Nat → List Int × Bool) (l : List UInt8) (acc : List Int) (gap : Option Nat) (d : List UInt8) : List UInt8 → List Int × Bool
  | [] => fin (acc ++ [val d]) gap
  | c :: r => if c = 46 then (match four l with | none => Z | some (a, b) => if 6 < acc.length then Z else fin (acc ++ [a, b]) gap) else if c = 58 then colon k (acc ++ [val d]) gap r else Z
def pg : Nat → List UInt8 → List Int → Option Nat → List Int × Bool
  | 0, _, _, _ => Z
  | f + 1, l, acc, gap => if acc.length = 8 then Z else if hx l = [] then Z else behind four (pg f) l acc gap (hx l) (l.drop (hx l).length)
theorem colon_two (k : List UInt8 → List Int → Option Nat → List Int × Bool) (acc : List Int) (gap : Option Nat) (r2 : List UInt8) : colon k acc gap (58 :: r2) = if gap.isSome = true ∨ acc.length = 8 then Z else if r2 = [] then fin (acc ++ [0]) (some acc.length) else k r2 (acc ++ [0]) (some acc.length) := rfl
theorem colon_one (k : List UInt8 → List Int → Option Nat → List Int × Bool) (acc : List Int) (gap : Option Nat) {r : List UInt8} (h : ∀ r2, r ≠ 58 :: r2) : colon k acc gap r = k r acc gap := by
  unfold colon
  split
  · rename_i r2; exact absurd rfl (h r2)
  · rfl
/-- What a text of four numbers looks like. -/
structure Fours : Prop where
  colon : ∀ l x, four l = some x → (58 : UInt8) ∉ l
  dot : ∀ l x, four l = some x → hx l ≠ [] ∧ ∃ r, l.drop (hx l).length = 46 :: r
variable {four}

theorem hexd_58 : hexd 58 = false := by decide
theorem hexd_46 : hexd 46 = false := by decide
theorem hx_nil : hx [] = [] := rfl
theorem piece_nil : pieceL [] = none := rfl
theorem hx_prefix (l : List UInt8) : ∃ r, l = hx l ++ r := by
  unfold hx
  have h1 : (l.take 4).takeWhile hexd <+: l.take 4 := List.takeWhile_prefix _
  have h2 := h1.trans (List.take_prefix 4 l)
  obtain ⟨r, hr⟩ := h2
  exact ⟨r, hr.symm⟩
theorem hx_len (l : List UInt8) : (hx l).length ≤ 4 := by
  unfold hx
  have := (List.takeWhile_prefix hexd (l := l.take 4)).length_le
  simp at this
  omega
theorem hx_all (l : List UInt8) : (hx l).all hexd = true := by
  unfold hx
  generalize l.take 4 = m
  induction m with
  | nil => rfl
  | cons x m ih =>
    rw [List.takeWhile_cons]
    split
    · rw [List.all_cons, ih]; simp [*]
    · rfl
/-- A piece that is one, and what stands behind it. -/
theorem hx_piece {t r : List UInt8} (h : pieceL t ≠ none) (hr : r = [] ∨ ∃ s, r = 58 :: s) : hx (t ++ r) = t := by
  unfold pieceL at h
  split at h
  · rename_i hp
    obtain ⟨h1, h2, h3⟩ := hp
    unfold hx
    rw [List.take_append, List.take_of_length_le h2]
    have h58 : (r.take (4 - t.length)).takeWhile hexd = [] := by
      rcases hr with rfl | ⟨s, rfl⟩
      · simp
      · cases 4 - t.length with
        | zero => simp
        | succ n => simp [List.takeWhile_cons, hexd_58]
    rw [List.takeWhile_append_of_pos (by intro a ha; exact List.all_eq_true.1 h3 a ha), h58, List.append_nil]
  · exact absurd rfl h
theorem piece_val {t : List UInt8} {n : Int} (h : pieceL t = some n) : n = val t ∧ t ≠ [] := by
  unfold pieceL at h
  split at h
  · rename_i hp
    exact ⟨(Option.some.inj h).symm, hp.1⟩
  · cases h
/-- A token that is no piece: behind its digits there is a byte of it, or it has no digit. -/
theorem no_piece {t r : List UInt8} (h : pieceL t = none) (ht : (58 : UInt8) ∉ t) (hr : r = [] ∨ ∃ s, r = 58 :: s) :
    hx (t ++ r) = [] ∨ ∃ c s, (t ++ r).drop (hx (t ++ r)).length = c :: s ∧ c ≠ 58 := by
  by_cases h0 : hx (t ++ r) = []
  · exact .inl h0
  · right
    obtain ⟨q, hq⟩ := hx_prefix (t ++ r)
    have hall := hx_all (t ++ r)
    have hlen := hx_len (t ++ r)
    generalize hx (t ++ r) = d at *
    have hd : (t ++ r).drop d.length = q := by rw [hq]; simp
    have h58 : (58 : UInt8) ∉ d := fun hm => by have := List.all_eq_true.1 hall _ hm; rw [hexd_58] at this; cases this
    have hle : d.length ≤ t.length := by
      rcases Nat.lt_or_ge t.length d.length with hlt | hge
      · exfalso
        have e : d = t ++ r.take (d.length - t.length) := by
          have h1 : (t ++ r).take d.length = d := by rw [hq]; simp
          rw [← h1, List.take_append, List.take_of_length_le (by omega)]
          simp [h1]
        rcases hr with rfl | ⟨s, rfl⟩
        · have : d.length ≤ t.length := by rw [e]; simp
          omega
        · apply h58
          rw [e]
          have : d.length - t.length = (d.length - t.length - 1) + 1 := by omega
          rw [this]
          simp
      · exact hge
    obtain ⟨u, hu⟩ : ∃ u, t = d ++ u := by
      refine ⟨t.drop d.length, ?_⟩
      have h1 : (t ++ r).take d.length = d := by rw [hq]; simp
      rw [List.take_append_of_le_length hle] at h1
      conv => lhs; rw [← List.take_append_drop d.length t, h1]
    cases u with
    | nil =>
      exfalso
      rw [List.append_nil] at hu
      subst hu
      unfold pieceL at h
      rw [if_pos ⟨h0, hlen, hall⟩] at h
      cases h
    | cons c u =>
      subst hu
      refine ⟨c, u ++ r, by simp, ?_⟩
      rintro rfl
      exact ht (by simp)

/-- A text, its first part. -/
theorem token (l : List UInt8) : ((58 : UInt8) ∉ l) ∨ ∃ t r, l = t ++ 58 :: r ∧ (58 : UInt8) ∉ t := by
  induction l with
  | nil => left; simp
  | cons c l ih =>
    by_cases hc : c = 58
    · right; exact ⟨[], l, by simp [hc], by simp⟩
    · rcases ih with h | ⟨t, r, rfl, h⟩
      · left; simp [h]; exact fun e => hc e.symm
      · right; exact ⟨c :: t, r, by simp, by simp [h]; exact fun e => hc e.symm⟩
theorem first_cons {c : UInt8} {l : List UInt8} (h : firstDD (c :: l) = none) : firstDD l = none ∧ ¬ (c = 58 ∧ ∃ r, l = 58 :: r) := by
  cases l with
  | nil => exact ⟨rfl, by simp⟩
  | cons d r =>
    rw [firstDD] at h
    split at h
    · cases h
    · rename_i hcd
      refine ⟨by simpa using h, ?_⟩
      rintro ⟨hc, s, hs⟩
      injection hs with hd _
      exact hcd ⟨hc, hd⟩
theorem first_behind {t l : List UInt8} (h : firstDD (t ++ l) = none) : firstDD l = none := by
  induction t with
  | nil => exact h
  | cons c t ih => exact ih (first_cons h).1
theorem row_more {t : List UInt8} {R : List (List UInt8)} (hR : R ≠ []) (last : Bool) : rowL four (t :: R) last = (pieceL t).bind fun n => (rowL four R last).map fun L => n :: L := by
  cases R with
  | nil => exact absurd rfl hR
  | cons s R => rw [rowL]; simp
theorem fin_eq (acc : List Int) (n : Int) (L : List Int) (gap : Option Nat) : fin (acc ++ [n] ++ L) gap = fin (acc ++ n :: L) gap := by rw [List.append_assoc]; rfl
/-- From a piece on: what the parts tell. -/
def endsR (toks : List (List UInt8)) (acc : List Int) (gap : Option Nat) : List Int × Bool := match rowL four toks true with
  | some L => if acc.length + L.length ≤ 8 then fin (acc ++ L) gap else Z
  | none => Z
theorem row_pos : ∀ (toks : List (List UInt8)) (last : Bool) (L : List Int), rowL four toks last = some L → toks.length ≤ L.length
  | [], _, L, h => by simp
  | [t], last, L, h => by
    rw [rowL] at h
    split at h
    · split at h
      · injection h with h; subst h; simp
      · cases hp : pieceL t with
        | none => rw [hp] at h; cases h
        | some n => rw [hp] at h; simp at h; subst h; simp
    · cases hp : pieceL t with
      | none => rw [hp] at h; cases h
      | some n => rw [hp] at h; simp at h; subst h; simp
  | t :: s :: r, last, L, h => by
    rw [row_more (by simp)] at h
    obtain ⟨n, _, h⟩ := Option.bind_eq_some_iff.mp h
    obtain ⟨M, hM, rfl⟩ := Option.map_eq_some_iff.1 h
    have := row_pos (s :: r) last M hM
    simp at this ⊢
    omega
theorem pg_at (f : Nat) (l : List UInt8) (acc : List Int) (gap : Option Nat) (h8 : acc.length ≠ 8) {d r : List UInt8} (hd : hx l = d) (h0 : d ≠ []) (hr : l.drop d.length = r) :
    pg four (f + 1) l acc gap = behind four (pg four f) l acc gap d r := by
  rw [pg, if_neg h8, hd, if_neg h0, hr]
theorem claimA (F : Fours four) : ∀ (f : Nat) (l : List UInt8) (acc : List Int) (gap : Option Nat), l.length < f → (gap.isSome = true ∨ firstDD l = none) → acc.length ≤ 8 →
    pg four f l acc gap = if l = [] then Z else endsR (four := four) (splitC 58 l) acc gap := by
  intro f
  induction f with
  | zero => intro l acc gap h; omega
  | succ f ih =>
    intro l acc gap hl hg ha
    by_cases hnil : l = []
    · subst hnil
      rw [if_pos rfl, pg]
      split
      · rfl
      · rw [if_pos hx_nil]
    rw [if_neg hnil]
    by_cases h8 : acc.length = 8
    · rw [pg, if_pos h8]
      unfold endsR
      split
      · rename_i L hL
        have := row_pos _ _ _ hL
        have hne := splitC_ne 58 l
        have : 0 < (splitC 58 l).length := List.length_pos_iff.2 hne
        rw [if_neg (by omega)]
      · rfl
    rcases token l with hno | ⟨t, r, rfl, ht⟩
    · rw [splitC_none hno]
      unfold endsR
      rw [rowL, if_pos rfl]
      cases hf : four l with
      | some x =>
        obtain ⟨a, b⟩ := x
        obtain ⟨h1, r, h2⟩ := F.dot l _ hf
        rw [pg_at f l acc gap h8 rfl h1 h2]
        simp only [behind, if_true, hf, List.length_cons, List.length_nil]
        by_cases h6 : 6 < acc.length
        · rw [if_pos h6, if_neg (by omega)]
        · rw [if_neg h6, if_pos (by omega)]
      | none =>
        cases hp : pieceL l with
        | some n =>
          obtain ⟨hv, hne⟩ := piece_val hp
          have hx1 := hx_piece (t := l) (r := []) (by rw [hp]; simp) (.inl rfl)
          rw [List.append_nil] at hx1
          rw [pg_at f l acc gap h8 hx1 hne (r := []) (by simp)]
          simp only [behind, Option.map_some, List.length_cons, List.length_nil]
          rw [if_pos (by omega), hv]
        | none =>
          rcases no_piece (t := l) (r := []) hp hno (.inl rfl) with h0 | ⟨c, s, hd, hc⟩
          · rw [List.append_nil] at h0
            rw [pg, if_neg h8, if_pos h0]
            rfl
          · rw [List.append_nil] at hd
            by_cases h0 : hx l = []
            · rw [pg, if_neg h8, if_pos h0]; rfl
            · rw [pg_at f l acc gap h8 rfl h0 hd]
              simp only [behind, hf]
              by_cases h46 : c = 46
              · rw [if_pos h46]; rfl
              · rw [if_neg h46, if_neg hc]; rfl
    · have hsp : splitC 58 (t ++ 58 :: r) = t :: splitC 58 r := splitC_split ht
      rw [hsp]
      unfold endsR
      rw [row_more (splitC_ne 58 r)]
      cases hp : pieceL t with
      | some n =>
        obtain ⟨hv, hne⟩ := piece_val hp
        have hx1 := hx_piece (t := t) (r := 58 :: r) (by rw [hp]; simp) (.inr ⟨r, rfl⟩)
        rw [pg_at f (t ++ 58 :: r) acc gap h8 hx1 hne (r := 58 :: r) (by simp)]
        simp only [behind, Option.bind_some, if_neg (show ¬ (58 : UInt8) = 46 by decide), if_true]
        simp only [List.length_append, List.length_cons] at hl
        by_cases hr : ∃ r2, r = 58 :: r2
        · obtain ⟨r2, rfl⟩ := hr
          have hgs : gap.isSome = true := by
            rcases hg with hg | hg
            · exact hg
            · have := (first_cons (first_behind hg)).2
              exact absurd ⟨rfl, r2, rfl⟩ this
          rw [colon_two]
          simp only [hgs, true_or, if_true]
          rw [splitC_hit, row_more (splitC_ne 58 r2), piece_nil]
          rfl
        · have hr' : ∀ r2, r ≠ 58 :: r2 := fun r2 e => hr ⟨r2, e⟩
          rw [colon_one _ _ _ hr', ih r (acc ++ [val t]) gap (by omega) (hg.imp_right (fun h => (first_cons (first_behind h)).1)) (by simp; omega)]
          by_cases hrn : r = []
          · subst hrn
            rw [if_pos rfl]
            have : rowL four (splitC 58 []) true = none := by
              show rowL four [[]] true = none
              rw [rowL, if_pos rfl]
              cases hf : four [] with
              | some x => have := (F.dot [] x hf).1; exact absurd hx_nil this
              | none => rfl
            rw [this]
            rfl
          · rw [if_neg hrn]
            unfold endsR
            cases rowL four (splitC 58 r) true with
            | none => rfl
            | some L =>
              simp only [Option.map_some, List.length_append, List.length_cons, List.length_nil, ← hv]
              rw [fin_eq]
              by_cases hc : acc.length + (L.length + 1) ≤ 8
              · rw [if_pos hc, if_pos (by omega)]
              · rw [if_neg hc, if_neg (by omega)]
      | none =>
        simp only [Option.bind_none]
        rcases no_piece (t := t) (r := 58 :: r) hp ht (.inr ⟨r, rfl⟩) with h0 | ⟨c, s, hd, hc⟩
        · rw [pg, if_neg h8, if_pos h0]
        · by_cases h0 : hx (t ++ 58 :: r) = []
          · rw [pg, if_neg h8, if_pos h0]
          · rw [pg_at f (t ++ 58 :: r) acc gap h8 rfl h0 hd]
            have hf : four (t ++ 58 :: r) = none := by
              cases hf : four (t ++ 58 :: r) with
              | none => rfl
              | some x => exact absurd (by simp) (F.colon _ x hf)
            simp only [behind, hf]
            by_cases h46 : c = 46
            · rw [if_pos h46]
            · rw [if_neg h46, if_neg hc]

theorem first_tok {t : List UInt8} (ht : (58 : UInt8) ∉ t) (m : List UInt8) : firstDD (t ++ m) = (firstDD m).map fun p => (t ++ p.1, p.2) := by
  induction t with
  | nil => simp
  | cons c t ih =>
    simp at ht
    have h1 := ih ht.2
    cases hm : t ++ m with
    | nil =>
      have : m = [] := by simp at hm; exact hm.2
      subst this
      simp at hm
      subst hm
      rfl
    | cons d r =>
      show firstDD (c :: (t ++ m)) = _
      rw [hm, firstDD, if_neg (fun e => ht.1 e.1.symm), ← hm, h1]
      cases firstDD m <;> rfl
theorem first_one {r : List UInt8} (h : ∀ r2, r ≠ 58 :: r2) : firstDD (58 :: r) = (firstDD r).map fun p => (58 :: p.1, p.2) := by
  cases r with
  | nil => rfl
  | cons d r => rw [firstDD, if_neg (fun e => h r (by rw [e.2]))]
/-- What stands behind ::. -/
def gapR (b : List UInt8) (acc : List Int) (g : Nat) : List Int × Bool := if b = [] then fin acc (some g) else endsR (four := four) (splitC 58 b) acc (some g)
theorem claimB (F : Fours four) : ∀ (f : Nat) (l : List UInt8) (acc : List Int) (a b : List UInt8), l.length < f → acc.length ≤ 8 → firstDD l = some (a, b) → a ≠ [] →
    pg four f l acc none = match rowL four (splitC 58 a) false with
      | some L => if acc.length + L.length ≤ 7 then gapR (four := four) b (acc ++ L ++ [0]) (acc.length + L.length) else Z
      | none => Z := by
  intro f
  induction f with
  | zero => intro l acc a b h; omega
  | succ f ih =>
    intro l acc a b hl ha hd hne
    by_cases h8 : acc.length = 8
    · rw [pg, if_pos h8]
      cases hL : rowL four (splitC 58 a) false with
      | none => rfl
      | some L => simp only []; rw [if_neg (by omega)]
    rcases token l with hno | ⟨t, r, rfl, ht⟩
    · exfalso
      have := first_tok hno []
      rw [List.append_nil, hd] at this
      cases this
    · simp only [List.length_append, List.length_cons] at hl
      rw [first_tok ht] at hd
      by_cases hr : ∃ r2, r = 58 :: r2
      · obtain ⟨r2, rfl⟩ := hr
        rw [firstDD, if_pos ⟨rfl, rfl⟩] at hd
        simp only [Option.map_some, List.append_nil, Option.some.injEq, Prod.mk.injEq] at hd
        obtain ⟨rfl, rfl⟩ := hd
        rw [splitC_none ht, rowL, if_neg (by decide)]
        cases hp : pieceL t with
        | some n =>
          obtain ⟨hv, _⟩ := piece_val hp
          have hx1 := hx_piece (t := t) (r := 58 :: 58 :: r2) (by rw [hp]; simp) (.inr ⟨_, rfl⟩)
          rw [pg_at f _ acc none h8 hx1 hne (r := 58 :: 58 :: r2) (by simp)]
          simp only [behind, if_neg (show ¬ (58 : UInt8) = 46 by decide), if_true, Option.map_some, List.length_cons, List.length_nil]
          rw [colon_two]
          simp only [Option.isSome_none, Bool.false_eq_true, false_or, List.length_append, List.length_cons, List.length_nil, ← hv]
          by_cases h7 : acc.length + (0 + 1) = 8
          · rw [if_pos h7, if_neg (show ¬ acc.length + (0 + 1) ≤ 7 by omega)]
          · rw [if_neg h7, if_pos (show acc.length + (0 + 1) ≤ 7 by omega)]
            unfold gapR
            by_cases hb : r2 = []
            · rw [if_pos hb, if_pos hb]
            · rw [if_neg hb, if_neg hb, claimA F f r2 _ _ (by simp at hl; omega) (.inl rfl) (by simp; omega), if_neg hb]
        | none =>
          simp only [Option.map_none]
          rcases no_piece (t := t) (r := 58 :: 58 :: r2) hp ht (.inr ⟨_, rfl⟩) with h0 | ⟨c, s, hd, hc⟩
          · rw [pg, if_neg h8, if_pos h0]
          · by_cases h0 : hx (t ++ 58 :: 58 :: r2) = []
            · rw [pg, if_neg h8, if_pos h0]
            · rw [pg_at f _ acc none h8 rfl h0 hd]
              have hf : four (t ++ 58 :: 58 :: r2) = none := by
                cases hf : four (t ++ 58 :: 58 :: r2) with
                | none => rfl
                | some x => exact absurd (by simp) (F.colon _ x hf)
              simp only [behind, hf]
              by_cases h46 : c = 46
              · rw [if_pos h46]
              · rw [if_neg h46, if_neg hc]
      · have hr' : ∀ r2, r ≠ 58 :: r2 := fun r2 e => hr ⟨r2, e⟩
        rw [first_one hr'] at hd
        cases hfr : firstDD r with
        | none => rw [hfr] at hd; cases hd
        | some p =>
          obtain ⟨a', b'⟩ := p
          rw [hfr] at hd
          simp only [Option.map_some, Option.some.injEq, Prod.mk.injEq] at hd
          obtain ⟨rfl, rfl⟩ := hd
          have hne' : a' ≠ [] := by
            rintro rfl
            cases r with
            | nil => cases hfr
            | cons d r =>
              cases r with
              | nil => cases hfr
              | cons e r =>
                rw [firstDD] at hfr
                split at hfr
                · rename_i hde; exact hr' _ (by rw [hde.1])
                · cases hq : firstDD (e :: r) with
                  | none => rw [hq] at hfr; cases hfr
                  | some q => rw [hq] at hfr; simp at hfr
          rw [splitC_split ht, row_more (splitC_ne 58 a')]
          cases hp : pieceL t with
          | some n =>
            obtain ⟨hv, htn⟩ := piece_val hp
            have hx1 := hx_piece (t := t) (r := 58 :: r) (by rw [hp]; simp) (.inr ⟨_, rfl⟩)
            rw [pg_at f _ acc none h8 hx1 htn (r := 58 :: r) (by simp)]
            simp only [behind, if_neg (show ¬ (58 : UInt8) = 46 by decide), if_true, Option.bind_some]
            rw [colon_one _ _ _ hr', ih r (acc ++ [val t]) a' b' (by omega) (by simp; omega) hfr hne', ← hv]
            cases rowL four (splitC 58 a') false with
            | none => rfl
            | some L =>
              simp only [Option.map_some, List.length_append, List.length_cons, List.length_nil]
              rw [show acc ++ [n] ++ L ++ [0] = acc ++ n :: L ++ [0] by simp, show acc.length + (0 + 1) + L.length = acc.length + (L.length + 1) by omega]
          | none =>
            simp only [Option.bind_none]
            rcases no_piece (t := t) (r := 58 :: r) hp ht (.inr ⟨_, rfl⟩) with h0 | ⟨c, s, hd, hc⟩
            · rw [pg, if_neg h8, if_pos h0]
            · by_cases h0 : hx (t ++ 58 :: r) = []
              · rw [pg, if_neg h8, if_pos h0]
              · rw [pg_at f _ acc none h8 rfl h0 hd]
                have hf : four (t ++ 58 :: r) = none := by
                  cases hf : four (t ++ 58 :: r) with
                  | none => rfl
                  | some x => exact absurd (by simp) (F.colon _ x hf)
                simp only [behind, hf]
                by_cases h46 : c = 46
                · rw [if_pos h46]
                · rw [if_neg h46, if_neg hc]

/-! ### The document's -/
def rowT (l : List UInt8) (last : Bool) : Option (List Int) := if l = [] then some [] else if 8 < (splitC 58 l).length then none else rowL four (splitC 58 l) last
def six (l : List UInt8) : List Int × Bool := match firstDD l with
  | none => match rowT (four := four) l true with
    | some L => if L.length = 8 then (L, true) else Z
    | none => Z
  | some (a, b) => match rowT (four := four) a false, rowT (four := four) b true with
    | some A, some B => if A.length + B.length ≤ 7 then (A ++ List.replicate (8 - A.length - B.length) 0 ++ B, true) else Z
    | _, _ => Z
theorem fin_gap (A B : List Int) (h : A.length + B.length ≤ 7) : fin (A ++ [0] ++ B) (some A.length) = (A ++ List.replicate (8 - A.length - B.length) 0 ++ B, true) := by
  unfold fin
  simp only []
  have e1 : (A ++ [0] ++ B).take A.length = A := by simp
  have e2 : (A ++ [0] ++ B).drop (A.length + 1) = B := by
    have : (A ++ [0]).length = A.length + 1 := by simp
    rw [← this, List.drop_left]
  rw [e1, e2]
  congr 4
  simp
  omega
/-- Behind ::, as the document says it. -/
theorem gap_row (A b : List UInt8) (L : List Int) (h : L.length ≤ 7) : gapR (four := four) b (L ++ [0]) L.length = match rowT (four := four) b true with
    | some B => if L.length + B.length ≤ 7 then (L ++ List.replicate (8 - L.length - B.length) 0 ++ B, true) else Z
    | none => Z := by
  unfold gapR rowT
  by_cases hb : b = []
  · rw [if_pos hb, if_pos hb]
    simp only [List.length_nil, Nat.add_zero, if_pos h]
    have := fin_gap L [] (by simpa using h)
    simpa using this
  · rw [if_neg hb, if_neg hb]
    unfold endsR
    cases hB : rowL four (splitC 58 b) true with
    | none => rw [show (if 8 < (splitC 58 b).length then none else (none : Option (List Int))) = none by split <;> rfl]
    | some B =>
      have hp := row_pos _ _ _ hB
      by_cases h8 : 8 < (splitC 58 b).length
      · rw [if_pos h8]
        simp only [List.length_append, List.length_cons, List.length_nil]
        rw [if_neg (by omega)]
      · rw [if_neg h8]
        simp only [List.length_append, List.length_cons, List.length_nil]
        by_cases hc : L.length + B.length ≤ 7
        · rw [if_pos (by omega), if_pos hc, fin_gap L B hc]
        · rw [if_neg (by omega), if_neg hc]
def startP (f : Nat) (l : List UInt8) : List Int × Bool := match l with
  | 58 :: 58 :: r2 => colon (pg four f) [] none (58 :: r2)
  | l => pg four f l [] none
theorem first_nil {l b : List UInt8} (h : firstDD l = some ([], b)) : l = 58 :: 58 :: b := by
  match l with
  | [] => cases h
  | [_] => cases h
  | c :: d :: r =>
    rw [firstDD] at h
    split at h
    · rename_i hcd
      obtain ⟨rfl, rfl⟩ := hcd
      simp at h
      rw [h]
    · cases hq : firstDD (d :: r) with
      | none => rw [hq] at h; cases h
      | some q => rw [hq] at h; simp at h
theorem start_six (F : Fours four) (f : Nat) (l : List UInt8) (hl : l.length < f) : startP (four := four) f l = six (four := four) l := by
  unfold six
  cases hd : firstDD l with
  | none =>
    have e : startP (four := four) f l = pg four f l [] none := by
      unfold startP
      split
      · rename_i r2
        rw [firstDD, if_pos ⟨rfl, rfl⟩] at hd
        cases hd
      · rfl
    rw [e, claimA F f l [] none hl (.inr hd) (by simp)]
    unfold rowT
    by_cases hn : l = []
    · rw [if_pos hn, if_pos hn]; rfl
    · rw [if_neg hn, if_neg hn]
      unfold endsR
      cases hL : rowL four (splitC 58 l) true with
      | none => rw [show (if 8 < (splitC 58 l).length then none else (none : Option (List Int))) = none by split <;> rfl]
      | some L =>
        have hp := row_pos _ _ _ hL
        by_cases h8 : 8 < (splitC 58 l).length
        · rw [if_pos h8]
          simp only [List.length_nil]
          rw [if_neg (by omega)]
        · rw [if_neg h8]
          simp only [List.length_nil, List.nil_append, fin]
          by_cases h9 : L.length = 8
          · rw [if_pos (by omega)]
          · rw [if_neg h9]; split <;> rfl
  | some p =>
    obtain ⟨a, b⟩ := p
    by_cases ha : a = []
    · subst ha
      have e := first_nil hd
      subst e
      show colon (pg four f) [] none (58 :: b) = _
      rw [colon_two]
      simp only [Option.isSome_none, Bool.false_eq_true, false_or, List.length_nil, List.nil_append]
      rw [if_neg (by decide)]
      have hg : (if b = [] then fin [0] (some 0) else pg four f b [0] (some 0)) = gapR (four := four) b ([] ++ [0]) ([] : List Int).length := by
        unfold gapR
        by_cases hb : b = []
        · rw [if_pos hb, if_pos hb]; rfl
        · rw [if_neg hb, if_neg hb, claimA F f b _ _ (by simp at hl; omega) (.inl rfl) (by simp), if_neg hb]; rfl
      rw [hg, gap_row [] b [] (by simp)]
      show _ = (match (some ([] : List Int)), rowT (four := four) b true with
        | some A, some B => if A.length + B.length ≤ 7 then (A ++ List.replicate (8 - A.length - B.length) 0 ++ B, true) else Z
        | _, _ => Z)
      cases rowT (four := four) b true <;> rfl
    · have e : startP (four := four) f l = pg four f l [] none := by
        unfold startP
        split
        · rename_i r2
          rw [firstDD, if_pos ⟨rfl, rfl⟩] at hd
          simp at hd
          exact absurd (by first | exact hd.1 | exact hd.1.symm) ha
        · rfl
      rw [e, claimB F f l [] a b hl (by simp) hd ha]
      dsimp only
      unfold rowT
      rw [if_neg ha]
      cases hA : rowL four (splitC 58 a) false with
      | none =>
        have : (if 8 < (splitC 58 a).length then none else (none : Option (List Int))) = none := by split <;> rfl
        rw [this]
      | some A =>
        have hp := row_pos _ _ _ hA
        simp only [List.length_nil, Nat.zero_add, List.nil_append]
        by_cases h8 : 8 < (splitC 58 a).length
        · rw [if_pos h8, if_neg (by omega)]
        · rw [if_neg h8]
          by_cases h7 : A.length ≤ 7
          · rw [if_pos h7, gap_row a b A h7]
            unfold rowT
            generalize (if b = [] then some [] else if 8 < (splitC 58 b).length then none else rowL four (splitC 58 b) true) = ob
            cases ob <;> rfl
          · rw [if_neg h7]
            split
            · rename_i A' B' hA' hB'
              injection hA' with hA'
              subst hA'
              rw [if_neg (by omega)]
            · rfl
end
end Go.Proofs.YtcpfhnodbgojaaaDoor.Six
