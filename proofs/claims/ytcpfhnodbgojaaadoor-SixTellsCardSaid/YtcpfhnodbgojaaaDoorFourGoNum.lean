/- Spelled numbers, and what ip4 reads in them: plain. -/
import Derived.Test.YtcpfhnodbgojaaaDoorFourGo
import Derived.Test.YtcpfhnodbgojaaaDoorPFx6
import Derived.Test.YtcpfhnodbgojaaaDoorPFx7
import Derived.Test.YtcpfhnodbgojaaaDoorPFx9
import Derived.Test.YtcpfhnodbgojaaaDoorLibAid
namespace Go.Proofs.YtcpfhnodbgojaaaDoor.Four
open Go.RowKit Go.Proofs.YtcpfhnodbgojaaaDoor.PF Go.Proofs.YtcpfhnodbgojaaaDoorW.PrintWords Go.Proofs.YtcpfhnodbgojaaaDoorW.PrintMore Go.Proofs.YtcpfhnodbgojaaaDoorK Go.Proofs.YtcpfhnodbgojaaaDoorL

def LET : List UInt8 := [48, 49, 50, 51, 52, 53, 54, 55, 56, 57, 97, 66, 99, 68, 101, 70]
def lt (i : Nat) : UInt8 := LET.getD i 48
/-- A number spelled to a base, by at most so many digits. -/
def digF (b : Nat) : Nat → Nat → List UInt8
  | 0, _ => []
  | f + 1, n => if n < b then [lt n] else digF b f (n / b) ++ [lt (n % b)]
theorem lt_all : ∀ i : Fin 16, dv (lt i.val) = i.val ∧ lt i.val ≠ 46 ∧ lt i.val ≠ 120 ∧ lt i.val ≠ 88 ∧ (lt i.val = 48 → i.val = 0) := by decide +kernel
theorem lt_dv {i : Nat} (h : i < 16) : dv (lt i) = i := (lt_all ⟨i, h⟩).1
def B3 (b : Nat) : Prop := b = 8 ∨ b = 10 ∨ b = 16
theorem B3.pos {b : Nat} (h : B3 b) : 0 < b := by rcases h with rfl | rfl | rfl <;> omega
theorem B3.le {b : Nat} (h : B3 b) : b ≤ 16 := by rcases h with rfl | rfl | rfl <;> omega
theorem B3.int {b : Nat} (h : B3 b) : Base3 (b : Int) := by rcases h with rfl | rfl | rfl; exact .inl rfl; exact .inr (.inl rfl); exact .inr (.inr rfl)
theorem numV_append (b : Int) (l r : List UInt8) : ∀ s, numV b (l ++ r) s = (numV b l s).bind (numV b r) := by
  induction l with
  | nil => intro s; rfl
  | cons c l ih =>
    intro s
    rw [List.cons_append]
    unfold numV
    split
    · exact ih _
    · rfl
theorem numV_one {b : Int} {c : UInt8} (h : dv c < b) (s : Int) : numV b [c] s = some (mn (s * b + dv c) 4294967296) := by
  unfold numV
  rw [if_pos h]
  rfl
theorem digF_num {b : Nat} (hb : B3 b) : ∀ (f n : Nat), n < b ^ f → 0 < f → numV b (digF b f n) 0 = some (mn (n : Int) 4294967296)
  | 0, _, _, h => absurd h (by omega)
  | f + 1, n, hn, _ => by
    have hp := hb.pos
    have h16 := hb.le
    unfold digF
    by_cases h : n < b
    · rw [if_pos h, numV_one (by rw [lt_dv (by omega)]; omega), lt_dv (by omega)]
      simp
    · rw [if_neg h]
      have hm : n % b < b := Nat.mod_lt _ hp
      have h1 : n / b < b ^ f := by rw [Nat.div_lt_iff_lt_mul hp, ← Nat.pow_succ]; exact hn
      have h0 : 0 < f := by
        rcases Nat.eq_zero_or_pos f with rfl | h0
        · simp at hn; omega
        · exact h0
      rw [numV_append, digF_num hb f (n / b) h1 h0]
      simp only [Option.bind_some]
      rw [numV_one (by rw [lt_dv (by omega)]; omega), lt_dv (by omega)]
      congr 1
      have hd := Nat.div_add_mod n b
      generalize n / b = q at *
      generalize n % b = r at *
      rcases hb with rfl | rfl | rfl <;> (unfold mn; repeat' split) <;> omega
theorem digF_mem {b : Nat} (hb : B3 b) : ∀ (f n : Nat), ∀ c ∈ digF b f n, ∃ i, i < 16 ∧ c = lt i ∧ dv c < b
  | 0, _, c, h => by simp [digF] at h
  | f + 1, n, c, h => by
    have hp := hb.pos
    have h16 := hb.le
    unfold digF at h
    split at h
    · simp at h; exact ⟨n, by omega, h, by rw [h, lt_dv (by omega)]; omega⟩
    · have hm : n % b < b := Nat.mod_lt _ hp
      rcases List.mem_append.1 h with h | h
      · exact digF_mem hb f _ c h
      · simp at h; exact ⟨n % b, by omega, h, by rw [h, lt_dv (by omega)]; omega⟩
theorem digF_ne {b f n : Nat} (hf : 0 < f) : digF b f n ≠ [] := by
  cases f with
  | zero => omega
  | succ f => unfold digF; split <;> simp
theorem digF_dot {b : Nat} (hb : B3 b) (f n : Nat) : (46 : UInt8) ∉ digF b f n := by
  intro h
  obtain ⟨i, hi, e, _⟩ := digF_mem hb f n _ h
  exact (lt_all ⟨i, hi⟩).2.1 e.symm
theorem digF_len (b : Nat) : ∀ f n, (digF b f n).length ≤ f
  | 0, _ => by simp [digF]
  | f + 1, n => by
    unfold digF
    split
    · simp
    · have := digF_len b f (n / b); simp; omega
/-- The first digit is no nought, but for nought itself. -/
theorem digF_head {b : Nat} (hb : B3 b) : ∀ (f n : Nat), n < b ^ f → 0 < f → (digF b f n).head? = some 48 → digF b f n = [48] ∧ n = 0
  | 0, _, _, h => absurd h (by omega)
  | f + 1, n, hn, _ => by
    have hp := hb.pos
    have h16 := hb.le
    intro h
    unfold digF at h ⊢
    by_cases hb' : n < b
    · rw [if_pos hb'] at h ⊢
      simp at h
      have := (lt_all ⟨n, by omega⟩).2.2.2.2 h
      exact ⟨by rw [h], this⟩
    · rw [if_neg hb'] at h ⊢
      have h1 : n / b < b ^ f := by rw [Nat.div_lt_iff_lt_mul hp, ← Nat.pow_succ]; exact hn
      have h0 : 0 < f := by
        rcases Nat.eq_zero_or_pos f with rfl | h0
        · simp at hn; omega
        · exact h0
      have hne := digF_ne (b := b) (n := n / b) h0
      have h2 : (digF b f (n / b)).head? = some 48 := by
        cases hd : digF b f (n / b) with
        | nil => exact absurd hd hne
        | cons x t => rw [hd] at h; simpa using h
      have := (digF_head hb f _ h1 h0 h2).2
      have hq : 0 < n / b := Nat.div_pos (by omega) hp
      omega
theorem isHex_lt {x : UInt8} {l : List UInt8} (h : ∀ c ∈ l, ∃ i, i < 16 ∧ c = lt i) : isHex (x :: l) = none := by
  match l with
  | [] => rfl
  | y :: r =>
    obtain ⟨i, hi, e⟩ := h y (by simp)
    have := lt_all ⟨i, hi⟩
    rw [isHex_eq, if_neg]
    rintro ⟨_, h | h⟩
    · exact this.2.2.1 (e ▸ h)
    · exact this.2.2.2.1 (e ▸ h)
theorem digF_lt {b : Nat} (hb : B3 b) (f n : Nat) : ∀ c ∈ digF b f n, ∃ i, i < 16 ∧ c = lt i := fun c h => by
  obtain ⟨i, hi, e, _⟩ := digF_mem hb f n c h
  exact ⟨i, hi, e⟩
theorem digF_plain {b : Nat} (hb : B3 b) (f n : Nat) : isHex (digF b f n) = none := by
  cases h : digF b f n with
  | nil => rfl
  | cons x l => exact isHex_lt (fun c hc => digF_lt hb f n c (by rw [h]; simp [hc]))
/-- The four spellings of a part. -/
def form (z f n : Nat) : List UInt8 := match z with
  | 0 => digF 10 f n
  | 1 => 48 :: digF 8 f n
  | 2 => 48 :: 120 :: digF 16 f n
  | _ => 48 :: 88 :: 48 :: 48 :: 48 :: digF 16 f n
theorem form_num (z : Nat) {f n : Nat} (h10 : n < 10 ^ f) (h8 : n < 8 ^ f) (h16 : n < 16 ^ f) (hf : 0 < f) : numL (form z f n) = (mn n 4294967296, true) := by
  have hex : ∀ t, isHex t = some (digF 16 f n) → numL t = (mn n 4294967296, true) := by
    intro t ht
    unfold numL
    rw [ht]
    show pair (numV 16 (digF 16 f n) 0) = _
    rw [show (16 : Int) = ((16 : Nat) : Int) from rfl, digF_num (.inr (.inr rfl)) f n h16 hf]
    rfl
  match z with
  | 0 =>
    show numL (digF 10 f n) = _
    unfold numL
    rw [digF_plain (.inr (.inl rfl)) f n]
    show (if digF 10 f n = [] then (0, false) else pair (numV (if 1 < (digF 10 f n).length ∧ (digF 10 f n).head? = some 48 then 8 else 10) (digF 10 f n) 0)) = _
    rw [if_neg (digF_ne hf), if_neg]
    · rw [show (10 : Int) = ((10 : Nat) : Int) from rfl, digF_num (.inr (.inl rfl)) f n h10 hf]
      rfl
    · rintro ⟨h1, h2⟩
      rw [(digF_head (.inr (.inl rfl)) f n h10 hf h2).1] at h1
      simp at h1
  | 1 =>
    show numL (48 :: digF 8 f n) = _
    unfold numL
    rw [isHex_lt (digF_lt (.inl rfl) f n)]
    show (if 48 :: digF 8 f n = [] then (0, false) else pair (numV (if 1 < (48 :: digF 8 f n).length ∧ (48 :: digF 8 f n).head? = some 48 then 8 else 10) (48 :: digF 8 f n) 0)) = _
    have := List.length_pos_iff.2 (digF_ne (b := 8) (n := n) hf)
    rw [if_neg (by simp), if_pos ⟨by simp; omega, rfl⟩, numV_zero]
    rw [show (8 : Int) = ((8 : Nat) : Int) from rfl, digF_num (.inl rfl) f n h8 hf]
    rfl
  | 2 => exact hex _ rfl
  | z + 3 =>
    show numL (48 :: 88 :: 48 :: 48 :: 48 :: digF 16 f n) = _
    unfold numL
    rw [isHex_eq, if_pos ⟨rfl, .inr rfl⟩]
    show pair (numV 16 ([48, 48, 48] ++ digF 16 f n) 0) = _
    rw [numV_append]
    show pair (numV 16 (digF 16 f n) 0) = _
    rw [show (16 : Int) = ((16 : Nat) : Int) from rfl, digF_num (.inr (.inr rfl)) f n h16 hf]
    rfl
theorem dots_of {l : List UInt8} {L : List (List UInt8)} (h : splitC 46 l = L) (hn : L.getLast? ≠ some []) : dotsL l = L := by
  unfold dotsL dropLast
  rw [h, if_neg (fun k => hn k.2)]
/-! ### The printed spellers -/
theorem dec_byte : ∀ n : Fin 256, decI (n.val : Int) = digF 10 4 n.val := by decide +kernel
end Go.Proofs.YtcpfhnodbgojaaaDoor.Four
