/- What ip6's printed functions compute. -/
import Derived.Test.YtcpfhnodbgojaaaDoorSixPlain
set_option linter.unusedVariables false
set_option linter.unusedSimpArgs false
namespace Go.Proofs.YtcpfhnodbgojaaaDoor.Six
open Go.RowKit Go.Proofs.YtcpfhnodbgojaaaDoor.PF Go.Proofs.YtcpfhnodbgojaaaDoorW.PrintWords Go.Proofs.YtcpfhnodbgojaaaDoorW.PrintMore Go.Proofs.YtcpfhnodbgojaaaDoorK Go.Proofs.YtcpfhnodbgojaaaDoor.Four

/-! ### hex -/
def hidx (n : Nat) : Int := Go.Lib.indexByte [48, 49, 50, 51, 52, 53, 54, 55, 56, 57, 97, 98, 99, 100, 101, 102] (Go.bits .or .u8 (n : Int) 32).toNat.toUInt8
def hstep (n : Nat) : Bool := if n < 48 then decide (¬ dvN n < 16) else if dvN n < 16 then decide (hidx n = dvN n) else decide (hidx n < 0)
theorem hstep_all : ∀ n : Fin 256, hstep n.val = true := by decide +kernel
theorem hex_byte (c : UInt8) : ((c.toNat : Int) < 48 → hexd c = false) ∧ (¬ (c.toNat : Int) < 48 → (hexd c = true → hidx c.toNat = dv c) ∧ (hexd c = false → hidx c.toNat < 0)) := by
  have h := hstep_all ⟨c.toNat, c.toNat_lt⟩
  unfold hstep at h
  unfold hexd dv
  by_cases h48 : c.toNat < 48
  · rw [if_pos h48] at h
    refine ⟨fun _ => ?_, fun hn => absurd (by omega) hn⟩
    rw [decide_eq_false_iff_not]
    exact of_decide_eq_true h
  · rw [if_neg h48] at h
    refine ⟨fun hn => absurd hn (by omega), fun _ => ⟨fun hd => ?_, fun hd => ?_⟩⟩
    · rw [if_pos (of_decide_eq_true hd)] at h
      exact of_decide_eq_true h
    · rw [if_neg (of_decide_eq_false hd)] at h
      exact of_decide_eq_true h
theorem dv_bd {c : UInt8} (h : hexd c = true) : 0 ≤ dv c ∧ dv c < 16 := ⟨dv_nonneg c, of_decide_eq_true h⟩
theorem val_snoc (p : List UInt8) (c : UInt8) : val (p ++ [c]) = val p * 16 + dv c := by unfold val; rw [List.foldl_append]; rfl
theorem fold_bd : ∀ (t : List UInt8) (n : Int), 0 ≤ n → t.all hexd = true → 0 ≤ t.foldl (fun n c => n * 16 + dv c) n ∧ t.foldl (fun n c => n * 16 + dv c) n < (n + 1) * 16 ^ t.length
  | [], n, h, _ => ⟨h, by simp; omega⟩
  | c :: t, n, h, ha => by
    rw [List.all_cons, Bool.and_eq_true] at ha
    have hb := dv_bd ha.1
    have ih := fold_bd t (n * 16 + dv c) (by omega) ha.2
    refine ⟨ih.1, Int.lt_of_lt_of_le ih.2 ?_⟩
    have hp : (0 : Int) ≤ 16 ^ t.length := Int.le_of_lt (Int.pow_pos (by decide))
    rw [List.length_cons, Int.pow_succ]
    have := Int.mul_le_mul_of_nonneg_right (show n * 16 + dv c + 1 ≤ (n + 1) * 16 by omega) hp
    rw [Int.mul_comm (16 ^ t.length) 16, ← Int.mul_assoc]
    exact this
theorem val_bd (p : List UInt8) (h : p.all hexd = true) : 0 ≤ val p ∧ val p < 16 ^ p.length := by
  have := fold_bd p 0 (by omega) h
  unfold val
  simpa using this
theorem wrap_u16 {x : Int} (h0 : 0 ≤ x) (h1 : x < 65536) : IntKind.u16.wrap x = x := by rw [IntKind.wrap_u16]; omega
theorem or16 {x y : Int} (hx0 : 0 ≤ x) (hx1 : x < 4096) (hy0 : 0 ≤ y) (hy1 : y < 16) : Go.bits .or .u16 (IntKind.u16.wrap (x * 16)) (IntKind.u16.wrap y) = x * 16 + y := by
  rw [wrap_u16 (by omega) (by omega), wrap_u16 hy0 (by omega)]
  exact bits_join .u16 16 (by decide) (fun n h0 h1 => wrap_u16 h0 (by simpa using h1)) 4 (x * 16) y (by omega) (by omega) (by omega) hy0 (by omega) (by omega)
theorem hx_take (p r : List UInt8) (hp : p.length ≤ 4) (h : p.all hexd = true) : hx (p ++ r) = p ++ (r.take (4 - p.length)).takeWhile hexd := by
  unfold hx
  rw [List.take_append, List.take_of_length_le hp, List.takeWhile_append_of_pos (by intro a ha; exact List.all_eq_true.1 h a ha)]
theorem hex_loop (r : List UInt8) : ∀ p : List UInt8, p.length ≤ 4 → p.all hexd = true → (p ++ r).length ≤ 1000 →
    Ev (fun k => ip6_hex.l0 k (S (p ++ r)) (val p) (p.length : Int)) (val (hx (p ++ r)), ((hx (p ++ r)).length : Int)) := by
  induction r with
  | nil =>
    intro p hp h hl
    refine ⟨1, fun n hn => ?_⟩
    obtain ⟨m, rfl⟩ : ∃ m, n = m + 1 := ⟨n - 1, by omega⟩
    have e : hx (p ++ []) = p := by rw [hx_take p [] hp h]; simp
    rw [e]
    simp only [ip6_hex.l0, size_S]
    rw [if_neg (by unfold mn; simp; omega)]
  | cons c r ih =>
    intro p hp h hl
    simp only [List.length_append, List.length_cons] at hl
    by_cases h4 : p.length = 4
    · refine ⟨1, fun n hn => ?_⟩
      obtain ⟨m, rfl⟩ : ∃ m, n = m + 1 := ⟨n - 1, by omega⟩
      have e : hx (p ++ c :: r) = p := by rw [hx_take p _ hp h, h4]; simp
      rw [e]
      simp only [ip6_hex.l0, size_S]
      rw [if_neg (by unfold mn; simp; omega)]
    · have hmn : (p.length : Int) < mn ((S (p ++ c :: r)).size : Int) 4 := by rw [size_S]; unfold mn; simp; omega
      have hi : (p.length : Int) < ((S (p ++ c :: r)).size : Int) := by rw [size_S]; simp; omega
      have hidx_ : strings_IndexByte.f (⟨#[48, 49, 50, 51, 52, 53, 54, 55, 56, 57, 97, 98, 99, 100, 101, 102]⟩ : ByteArray) (Go.bits .or .u8 (c.toNat : Int) 32) = some (hidx c.toNat) := rfl
      have hb := hex_byte c
      have hstop : hexd c = false → hx (p ++ c :: r) = p := fun hc => by
        rw [hx_take p _ hp h]
        have : 4 - p.length = (4 - p.length - 1) + 1 := by omega
        rw [this, List.take_succ_cons, List.takeWhile_cons, hc]
        simp
      by_cases h48 : (c.toNat : Int) < 48
      · refine ⟨1, fun n hn => ?_⟩
        obtain ⟨m, rfl⟩ : ∃ m, n = m + 1 := ⟨n - 1, by omega⟩
        rw [hstop (hb.1 h48)]
        simp only [ip6_hex.l0, if_pos hmn, if_pos (show (0 : Int) ≤ (p.length : Int) by omega), if_pos hi, bt_mid, hidx_, Option.bind_some, if_pos h48]
      · cases hc : hexd c with
        | false =>
          refine ⟨1, fun n hn => ?_⟩
          obtain ⟨m, rfl⟩ : ∃ m, n = m + 1 := ⟨n - 1, by omega⟩
          rw [hstop hc]
          simp only [ip6_hex.l0, if_pos hmn, if_pos (show (0 : Int) ≤ (p.length : Int) by omega), if_pos hi, bt_mid, hidx_, Option.bind_some, if_neg h48, if_pos ((hb.2 h48).2 hc)]
        | true =>
          have hd := (hb.2 h48).1 hc
          have hbd := dv_bd hc
          have hv := val_bd p h
          have hv4 : val p < 4096 := by
            have : (16 : Int) ^ p.length ≤ 16 ^ 3 := by
              have : (16 : Nat) ^ p.length ≤ 16 ^ 3 := Nat.pow_le_pow_right (by omega) (by omega)
              exact_mod_cast this
            omega
          have hgo := ih (p ++ [c]) (by simp; omega) (by rw [List.all_append, h]; simp [hc]) (by simp; omega)
          have e1 : p ++ [c] ++ r = p ++ c :: r := by simp
          rw [e1, val_snoc] at hgo
          refine Ev.step (f := fun k => ip6_hex.l0 k (S (p ++ c :: r)) (val p * 16 + dv c) ((p ++ [c]).length : Int)) (fun k => ?_) hgo
          simp only [ip6_hex.l0, if_pos hmn, if_pos (show (0 : Int) ≤ (p.length : Int) by omega), if_pos hi, bt_mid, hidx_, Option.bind_some, if_neg h48]
          rw [if_neg (by omega), hd, or16 hv.1 hv4 hbd.1 hbd.2, next_mid p c (by omega)]
theorem go_hex (l : List UInt8) (hl : l.length ≤ 1000) : Ev (fun k => ip6_hex.f k (S l)) (val (hx l), ((hx l).length : Int)) := by
  have := hex_loop l [] (by simp) rfl (by simpa using hl)
  exact this

/-! ### Parse -/
def pad (acc : List Int) : List Int := acc ++ List.replicate (8 - acc.length) 0
def gapI (gap : Option Nat) : Int := match gap with | none => -1 | some g => (g : Int)
theorem pad_len {acc : List Int} (h : acc.length ≤ 8) : (pad acc).length = 8 := by unfold pad; simp; omega
theorem pad_set {acc : List Int} (h : acc.length < 8) (n : Int) : (pad acc).set acc.length n = pad (acc ++ [n]) := by
  unfold pad
  have : 8 - acc.length = (8 - (acc ++ [n]).length) + 1 := by simp; omega
  rw [this, List.replicate_succ, List.set_append_right _ _ (Nat.le_refl _), Nat.sub_self, List.set_cons_zero, List.append_assoc]
  rfl
theorem pad_zero {acc : List Int} (h : acc.length < 8) : pad (acc ++ [0]) = pad acc := by
  unfold pad
  have : 8 - acc.length = (8 - (acc ++ [0]).length) + 1 := by simp; omega
  rw [this, List.replicate_succ, List.append_assoc]
  rfl
theorem spr_eq {ps : List Int} (h : ps.length = 8) (a b : Int) : ip6_Parse.spr ps a b = if 0 ≤ a ∧ a < b ∧ b ≤ 8 then some (YtcpfhnodbgojaaaDoorR.spreadL ps a.toNat b.toNat) else none := by
  obtain ⟨p0, p1, p2, p3, p4, p5, p6, p7, rfl⟩ := YtcpfhnodbgojaaaDoorR.eight h
  rfl
theorem spread_pad {acc : List Int} {g : Nat} (ha : acc.length ≤ 8) (hg : g < acc.length) : YtcpfhnodbgojaaaDoorR.spreadL (pad acc) g acc.length = acc.take g ++ List.replicate (8 - (acc.length - 1)) 0 ++ acc.drop (g + 1) := by
  unfold YtcpfhnodbgojaaaDoorR.spreadL pad
  generalize hR : List.replicate (8 - acc.length) (0 : Int) = R
  have h1 : (acc ++ R).take g = acc.take g := List.take_append_of_le_length (by omega)
  have h2 : (acc ++ R).drop (g + 1) = acc.drop (g + 1) ++ R := List.drop_append_of_le_length (by omega)
  have hl1 : (acc.take g).length = g := by simp; omega
  have h3 : (acc.take g ++ List.replicate (8 - g) 0).take (8 - (acc.length - g - 1)) = acc.take g ++ List.replicate (8 - (acc.length - 1)) 0 := by
    rw [List.take_append, List.take_of_length_le (by omega), List.take_replicate, hl1]
    congr 2
    omega
  have hl2 : (acc.drop (g + 1)).length = acc.length - g - 1 := by simp; omega
  have h4 : (acc.drop (g + 1) ++ R).take (acc.length - g - 1) = acc.drop (g + 1) := by rw [← hl2, List.take_left]
  rw [h1, h2, h3, h4]
theorem run_wrong (s : ByteArray) (xa xg : Int) (ps : List Int) : Ev (fun k => ip6_Parse.run k 1 s xa xg ps) Z := by
  refine ⟨1, fun n hn => ?_⟩
  obtain ⟨m, rfl⟩ : ∃ m, n = m + 1 := ⟨n - 1, by omega⟩
  exact ip6_Parse.run_1 m s xa xg ps
theorem run_end {acc : List Int} (ha : acc.length ≤ 8) (gap : Option Nat) (hg : ∀ g, gap = some g → g < acc.length) (s : ByteArray) : Ev (fun k => ip6_Parse.run k 4 s (acc.length : Int) (gapI gap) (pad acc)) (fin acc gap) := by
  cases gap with
  | none =>
    unfold fin
    by_cases h8 : acc.length = 8
    · refine ⟨1, fun n hn => ?_⟩
      obtain ⟨m, rfl⟩ : ∃ m, n = m + 1 := ⟨n - 1, by omega⟩
      show ip6_Parse.run (m + 1) 4 s (acc.length : Int) (-1) (pad acc) = _
      rw [ip6_Parse.run_4, if_pos (by decide), if_pos (by omega)]
      simp only []
      rw [if_pos h8]
      unfold pad
      rw [h8]
      simp
    · simp only []
      rw [if_neg h8]
      obtain ⟨K, hK⟩ := run_wrong s (acc.length : Int) (-1) (pad acc)
      refine ⟨K + 1, fun n hn => ?_⟩
      obtain ⟨m, rfl⟩ : ∃ m, n = m + 1 := ⟨n - 1, by omega⟩
      show ip6_Parse.run (m + 1) 4 s (acc.length : Int) (-1) (pad acc) = _
      rw [ip6_Parse.run_4, if_pos (by decide), if_neg (by omega)]
      exact hK m (by omega)
  | some g =>
    have hga := hg g rfl
    refine ⟨1, fun n hn => ?_⟩
    obtain ⟨m, rfl⟩ : ∃ m, n = m + 1 := ⟨n - 1, by omega⟩
    show ip6_Parse.run (m + 1) 4 s (acc.length : Int) (g : Int) (pad acc) = _
    rw [ip6_Parse.run_4, if_neg (by omega), spr_eq (pad_len ha), if_pos (by omega), Int.toNat_natCast, Int.toNat_natCast, spread_pad ha hga]
    rfl
theorem has_S (a p : List UInt8) : strings_HasPrefix.f (S a) (S p) = some (a.take p.length == p) := by
  unfold strings_HasPrefix.f stringslite_HasPrefix.f
  simp only [size_S, toList_S, extract_S, Int.toNat_natCast, List.drop_zero]
  by_cases h : p.length ≤ a.length
  · rw [if_pos (by omega), if_pos (by omega), if_pos (by omega)]
    rfl
  · rw [if_neg (by omega)]
    have : (a.take p.length == p) = false := by
      rw [beq_eq_false_iff_ne]
      intro e
      have := congrArg List.length e
      simp at this
      omega
    rw [this]
    rfl
theorem has_two (r : List UInt8) : strings_HasPrefix.f (S (58 :: 58 :: r)) (⟨#[58, 58]⟩ : ByteArray) = some true := by
  rw [show (⟨#[58, 58]⟩ : ByteArray) = S [58, 58] from rfl, has_S]
  rfl
theorem has_no {l : List UInt8} (h : ∀ r, l ≠ 58 :: 58 :: r) : strings_HasPrefix.f (S l) (⟨#[58, 58]⟩ : ByteArray) = some false := by
  rw [show (⟨#[58, 58]⟩ : ByteArray) = S [58, 58] from rfl, has_S]
  congr 1
  rw [beq_eq_false_iff_ne]
  intro e
  apply h (l.drop 2)
  have := List.take_append_drop 2 l
  rw [show l.take 2 = [58, 58] from e] at this
  exact this.symm
theorem run_dd (kk : List UInt8 → List Int → Option Nat → List Int × Bool) (r2 : List UInt8) (acc : List Int) (gap : Option Nat) (ha : acc.length ≤ 8)
    (hk : r2 ≠ [] → acc.length < 8 → Ev (fun k => ip6_Parse.run k 2 (S r2) ((acc ++ [0]).length : Int) (gapI (some acc.length)) (pad (acc ++ [0]))) (kk r2 (acc ++ [0]) (some acc.length))) :
    Ev (fun k => ip6_Parse.run k 0 (S (58 :: 58 :: r2)) (acc.length : Int) (gapI gap) (pad acc)) (colon kk acc gap (58 :: r2)) := by
  rw [colon_two]
  have hex2 : (S (58 :: 58 :: r2)).extract 2 (S (58 :: 58 :: r2)).size = S r2 := by rw [extract_S, size_S, List.take_length]; rfl
  by_cases hz : gap.isSome = true ∨ acc.length = 8
  · rw [if_pos hz]
    refine Ev.step (fun k => ?_) (run_wrong (S (58 :: 58 :: r2)) (acc.length : Int) (gapI gap) (pad acc))
    show ip6_Parse.run (k + 1) 0 _ _ _ _ = _
    rw [ip6_Parse.run_0]
    by_cases hg : 0 ≤ gapI gap
    · rw [if_pos hg]
    · rw [if_neg hg]
      rcases hz with hz | hz
      · cases gap with
        | none => cases hz
        | some g => exact absurd (Int.natCast_nonneg g) hg
      · rw [if_pos (by omega)]
  · rw [if_neg hz]
    have h8 : acc.length < 8 := by
      rcases Nat.lt_or_ge acc.length 8 with h | h
      · exact h
      · exact absurd (.inr (by omega)) hz
    have hn : gap = none := by
      cases gap with
      | none => rfl
      | some g => exact absurd (.inl rfl) hz
    subst hn
    have e1 : (acc.length : Int) + 1 = ((acc ++ [0]).length : Int) := by simp
    have e2 : (acc.length : Int) = gapI (some acc.length) := rfl
    have hs : ∀ k, ip6_Parse.run (k + 1) 0 (S (58 :: 58 :: r2)) (acc.length : Int) (gapI none) (pad acc) = if r2 = [] then ip6_Parse.run k 4 (S r2) ((acc ++ [0]).length : Int) (gapI (some acc.length)) (pad (acc ++ [0])) else ip6_Parse.run k 2 (S r2) ((acc ++ [0]).length : Int) (gapI (some acc.length)) (pad (acc ++ [0])) := by
      intro k
      rw [ip6_Parse.run_0, if_neg (by decide), if_neg (by omega), if_pos (by rw [size_S]; simp only [List.length_cons]; omega), hex2, toList_S, e1, pad_zero h8]
      rfl
    by_cases hr : r2 = []
    · rw [if_pos hr]
      refine Ev.step (fun k => ?_) (run_end (acc := acc ++ [0]) (by simp; omega) (some acc.length) (fun g h => by cases h; rw [List.length_append]; exact Nat.lt_succ_self _) (S r2))
      show ip6_Parse.run (k + 1) 0 _ _ _ _ = _
      rw [hs k, if_pos hr]
    · rw [if_neg hr]
      refine Ev.step (fun k => ?_) (hk hr h8)
      show ip6_Parse.run (k + 1) 0 _ _ _ _ = _
      rw [hs k, if_neg hr]
section
variable {four : List UInt8 → Option (Int × Int)}
def fourV (four : List UInt8 → Option (Int × Int)) (l : List UInt8) : Int × Int × Bool := match four l with | some (a, b) => (a, b, true) | none => (0, 0, false)
theorem run_step (hfour : ∀ l : List UInt8, l.length ≤ 200 → Ev (fun k => ip6_four.f k (S l)) (fourV four l)) : ∀ (f : Nat) (l : List UInt8) (acc : List Int) (gap : Option Nat), l.length < f → l.length ≤ 200 → acc.length ≤ 8 → (∀ g, gap = some g → g < acc.length) →
    Ev (fun k => ip6_Parse.run k 2 (S l) (acc.length : Int) (gapI gap) (pad acc)) (pg four f l acc gap) := by
  intro f
  induction f with
  | zero => intro l acc gap h; omega
  | succ f ih =>
    intro l acc gap hlf hl ha hg
    by_cases h8 : acc.length = 8
    · rw [pg, if_pos h8]
      obtain ⟨K, hK⟩ := run_wrong (S l) (acc.length : Int) (gapI gap) (pad acc)
      refine ⟨K + 1, fun n hn => ?_⟩
      obtain ⟨m, rfl⟩ : ∃ m, n = m + 1 := ⟨n - 1, by omega⟩
      show ip6_Parse.run (m + 1) 2 _ _ _ _ = _
      rw [ip6_Parse.run_2, if_pos (by omega)]
      exact hK m (by omega)
    obtain ⟨K1, hK1⟩ := go_hex l (by omega)
    by_cases h0 : hx l = []
    · rw [pg, if_neg h8, if_pos h0]
      obtain ⟨K, hK⟩ := run_wrong (S l) (acc.length : Int) (gapI gap) (pad acc)
      refine ⟨max K K1 + 1, fun n hn => ?_⟩
      obtain ⟨m, rfl⟩ : ∃ m, n = m + 1 := ⟨n - 1, by omega⟩
      show ip6_Parse.run (m + 1) 2 _ _ _ _ = _
      have e1 : ip6_hex.f m (S l) = _ := hK1 m (by omega)
      rw [ip6_Parse.run_2, if_neg (by omega), e1, Option.bind_some]
      dsimp only
      rw [if_pos (by rw [h0]; rfl)]
      exact hK m (by omega)
    obtain ⟨q, hq⟩ := hx_prefix l
    have hdrop : l.drop (hx l).length = q := (congrArg (List.drop (hx l).length) hq).trans List.drop_left
    have hlen : l.length = (hx l).length + q.length := (congrArg List.length hq).trans List.length_append
    have hpos : 0 < (hx l).length := List.length_pos_iff.2 h0
    rw [pg_at f l acc gap h8 rfl h0 hdrop]
    have hcut : (S l).extract ((hx l).length : Int).toNat (S l).size = S q := by rw [extract_S, size_S, List.take_length, Int.toNat_natCast, hdrop]
    have hacc : ((acc.length : Int) + 1) = ((acc ++ [val (hx l)]).length : Int) := by simp
    have hset : (pad acc).set (acc.length : Int).toNat (val (hx l)) = pad (acc ++ [val (hx l)]) := by rw [Int.toNat_natCast]; exact pad_set (by omega) _
    have hg' : ∀ g, gap = some g → g < (acc ++ [val (hx l)]).length := fun g h => by have := hg g h; simp; omega
    have ha' : (acc ++ [val (hx l)]).length ≤ 8 := by simp; omega
    cases q with
    | nil =>
      obtain ⟨K, hK⟩ := run_end ha' gap hg' (S [])
      refine ⟨max K K1 + 1, fun n hn => ?_⟩
      obtain ⟨m, rfl⟩ : ∃ m, n = m + 1 := ⟨n - 1, by omega⟩
      show ip6_Parse.run (m + 1) 2 _ _ _ _ = _
      have e1 : ip6_hex.f m (S l) = _ := hK1 m (by omega)
      simp only [List.length_nil] at hlen
      rw [ip6_Parse.run_2, if_neg (by omega), e1, Option.bind_some]
      dsimp only
      rw [if_neg (by omega), if_pos (by rw [size_S]; omega), if_neg (by rw [size_S]; omega), hcut, hset, hacc]
      unfold ip6_Parse.after
      rw [toList_S, if_pos rfl]
      exact hK m (by omega)
    | cons c r =>
      simp only [List.length_cons] at hlen
      have hbt : bt (S l) ((hx l).length : Int) = (c.toNat : Int) := by
        have := bt_mid (hx l) c r
        rw [← hq] at this
        exact this
      have hc46 : (c.toNat : Int) = 46 ↔ c = 46 := byte_eq (z := 46) (by omega) (by omega)
      have hc58 : (c.toNat : Int) = 58 ↔ c = 58 := byte_eq (z := 58) (by omega) (by omega)
      have hstart : ∀ m, K1 ≤ m → ip6_Parse.run (m + 1) 2 (S l) (acc.length : Int) (gapI gap) (pad acc) = if c = 46 then ip6_Parse.run m 3 (S l) (acc.length : Int) (gapI gap) (pad acc) else ip6_Parse.after (ip6_Parse.run m) (S (c :: r)) ((acc ++ [val (hx l)]).length : Int) (gapI gap) (pad (acc ++ [val (hx l)])) := by
        intro m hm
        have e1 : ip6_hex.f m (S l) = _ := hK1 m hm
        rw [ip6_Parse.run_2, if_neg (by omega), e1, Option.bind_some]
        dsimp only
        rw [if_neg (by omega), if_pos (by rw [size_S]; omega), if_pos (by rw [size_S]; omega), hbt, hcut, hset, hacc]
        by_cases h : c = 46
        · rw [if_pos (hc46.2 h), if_pos h]
        · rw [if_neg (fun e => h (hc46.1 e)), if_neg h]
      by_cases h46 : c = 46
      · subst h46
        simp only [behind, if_true]
        obtain ⟨K2, hK2⟩ := hfour l (by omega)
        cases hf : four l with
        | none =>
          obtain ⟨K, hK⟩ := run_wrong (S l) (acc.length : Int) (gapI gap) (pad acc)
          refine ⟨max K (max K1 K2) + 2, fun n hn => ?_⟩
          obtain ⟨m, rfl⟩ : ∃ m, n = m + 2 := ⟨n - 2, by omega⟩
          have e2 : ip6_four.f m (S l) = _ := hK2 m (by omega)
          show ip6_Parse.run (m + 1 + 1) 2 _ _ _ _ = _
          rw [hstart (m + 1) (by omega), if_pos rfl, ip6_Parse.run_3, e2, Option.bind_some]
          unfold fourV
          rw [hf]
          dsimp only
          rw [if_neg (by decide)]
          exact hK m (by omega)
        | some x =>
          obtain ⟨a, b⟩ := x
          dsimp only
          by_cases h6 : 6 < acc.length
          · rw [if_pos h6]
            obtain ⟨K, hK⟩ := run_wrong (S l) (acc.length : Int) (gapI gap) (pad acc)
            refine ⟨max K (max K1 K2) + 2, fun n hn => ?_⟩
            obtain ⟨m, rfl⟩ : ∃ m, n = m + 2 := ⟨n - 2, by omega⟩
            have e2 : ip6_four.f m (S l) = _ := hK2 m (by omega)
            show ip6_Parse.run (m + 1 + 1) 2 _ _ _ _ = _
            rw [hstart (m + 1) (by omega), if_pos rfl, ip6_Parse.run_3, e2, Option.bind_some]
            unfold fourV
            rw [hf]
            dsimp only
            rw [if_pos rfl, if_pos (by omega)]
            exact hK m (by omega)
          · rw [if_neg h6]
            obtain ⟨K, hK⟩ := run_end (acc := acc ++ [a, b]) (by simp; omega) gap (fun g h => by have := hg g h; simp; omega) (S l)
            refine ⟨max K (max K1 K2) + 2, fun n hn => ?_⟩
            obtain ⟨m, rfl⟩ : ∃ m, n = m + 2 := ⟨n - 2, by omega⟩
            have e2 : ip6_four.f m (S l) = _ := hK2 m (by omega)
            have e3 : ((pad acc).set (acc.length : Int).toNat a).set ((acc.length : Int).toNat + 1) b = pad (acc ++ [a, b]) := by
              rw [Int.toNat_natCast, pad_set (by omega)]
              have := pad_set (acc := acc ++ [a]) (by simp; omega) b
              rw [List.length_append, List.length_singleton, List.append_assoc] at this
              exact this
            have e4 : (acc.length : Int) + 2 = ((acc ++ [a, b]).length : Int) := by simp
            show ip6_Parse.run (m + 1 + 1) 2 _ _ _ _ = _
            rw [hstart (m + 1) (by omega), if_pos rfl, ip6_Parse.run_3, e2, Option.bind_some]
            unfold fourV
            rw [hf]
            dsimp only
            rw [if_pos rfl, if_neg (by omega), e3, e4]
            exact hK m (by omega)
      · by_cases h58 : c = 58
        · subst h58
          simp only [behind, if_neg (show ¬ (58 : UInt8) = 46 by decide), if_true]
          by_cases hr : ∃ r2, r = 58 :: r2
          · obtain ⟨r2, rfl⟩ := hr
            simp only [List.length_cons] at hlen
            obtain ⟨K, hK⟩ := run_dd (pg four f) r2 (acc ++ [val (hx l)]) gap ha' (fun _ h8' => ih r2 (acc ++ [val (hx l)] ++ [0]) (some (acc ++ [val (hx l)]).length) (by omega) (by omega) (by rw [List.length_append (bs := [0])]; exact h8') (fun g h => by cases h; rw [List.length_append (bs := [0])]; exact Nat.lt_succ_self _))
            refine ⟨max K K1 + 1, fun n hn => ?_⟩
            obtain ⟨m, rfl⟩ : ∃ m, n = m + 1 := ⟨n - 1, by omega⟩
            show ip6_Parse.run (m + 1) 2 _ _ _ _ = _
            rw [hstart m (by omega), if_neg (by decide)]
            unfold ip6_Parse.after
            rw [toList_S, if_neg (by simp), has_two, Option.bind_some, if_pos rfl]
            exact hK m (by omega)
          · have hr' : ∀ r2, r ≠ 58 :: r2 := fun r2 e => hr ⟨r2, e⟩
            rw [colon_one _ _ _ hr']
            obtain ⟨K, hK⟩ := ih r (acc ++ [val (hx l)]) gap (by omega) (by omega) ha' hg'
            refine ⟨max K K1 + 1, fun n hn => ?_⟩
            obtain ⟨m, rfl⟩ : ∃ m, n = m + 1 := ⟨n - 1, by omega⟩
            show ip6_Parse.run (m + 1) 2 _ _ _ _ = _
            rw [hstart m (by omega), if_neg (by decide)]
            unfold ip6_Parse.after
            have hex1 : (S (58 :: r)).extract 1 (S (58 :: r)).size = S r := by rw [extract_S, size_S, List.take_length]; rfl
            have hb0 : bt (S (58 :: r)) 0 = 58 := bt_mid [] 58 r
            rw [toList_S, if_neg (by simp), has_no (fun r2 e => by injection e with _ e; exact hr' r2 e), Option.bind_some, if_neg (by decide), if_pos (by rw [size_S]; simp only [List.length_cons]; omega), hb0, if_pos rfl, hex1]
            exact hK m (by omega)
        · simp only [behind, if_neg h46, if_neg h58]
          obtain ⟨K, hK⟩ := run_wrong (S (c :: r)) ((acc ++ [val (hx l)]).length : Int) (gapI gap) (pad (acc ++ [val (hx l)]))
          refine ⟨max K K1 + 1, fun n hn => ?_⟩
          obtain ⟨m, rfl⟩ : ∃ m, n = m + 1 := ⟨n - 1, by omega⟩
          show ip6_Parse.run (m + 1) 2 _ _ _ _ = _
          rw [hstart m (by omega), if_neg h46]
          unfold ip6_Parse.after
          have hb0 : bt (S (c :: r)) 0 = (c.toNat : Int) := bt_mid [] c r
          rw [toList_S, if_neg (by simp), has_no (fun r2 e => by injection e with e _; exact h58 e), Option.bind_some, if_neg (by decide), if_pos (by rw [size_S]; simp only [List.length_cons]; omega), hb0, if_neg (fun e => h58 (hc58.1 e))]
          exact hK m (by omega)
/-- ip6.Parse's answer. -/
theorem go_six (F : Fours four) (hfour : ∀ l : List UInt8, l.length ≤ 200 → Ev (fun k => ip6_four.f k (S l)) (fourV four l)) (l : List UInt8) (hl : l.length ≤ 200) :
    Ev (fun k => ip6_Parse.f k (S l)) (ip6_Parse.nine (six (four := four) l)) := by
  rw [← start_six F (l.length + 1) l (Nat.lt_succ_self _)]
  by_cases h : ∃ r, l = 58 :: 58 :: r
  · obtain ⟨r, rfl⟩ := h
    obtain ⟨K, hK⟩ := run_dd (pg four ((58 :: 58 :: r).length + 1)) r [] none (by simp) (fun _ _ => run_step hfour ((58 :: 58 :: r).length + 1) r [0] (some 0) (by simp only [List.length_cons]; omega) (by simp at hl; omega) (by simp) (fun g h => by cases h; simp))
    refine ⟨K, fun n hn => ?_⟩
    have e : ip6_Parse.run n 0 (S (58 :: 58 :: r)) 0 (-1) [0, 0, 0, 0, 0, 0, 0, 0] = _ := hK n hn
    show ip6_Parse.f n _ = _
    unfold ip6_Parse.f
    rw [has_two, Option.bind_some, if_pos rfl, e]
    rfl
  · have hn : ∀ r, l ≠ 58 :: 58 :: r := fun r e => h ⟨r, e⟩
    obtain ⟨K, hK⟩ := run_step hfour (l.length + 1) l [] none (Nat.lt_succ_self _) hl (by simp) (fun g h => by cases h)
    refine ⟨K, fun n hn' => ?_⟩
    have e : ip6_Parse.run n 2 (S l) 0 (-1) [0, 0, 0, 0, 0, 0, 0, 0] = _ := hK n hn'
    have es : startP (four := four) (l.length + 1) l = pg four (l.length + 1) l [] none := by
      unfold startP
      split
      · rename_i r2; exact absurd rfl (hn r2)
      · rfl
    show ip6_Parse.f n _ = _
    unfold ip6_Parse.f
    rw [has_no hn, Option.bind_some, if_neg (by decide), e, es]
    rfl
end
end Go.Proofs.YtcpfhnodbgojaaaDoor.Six
