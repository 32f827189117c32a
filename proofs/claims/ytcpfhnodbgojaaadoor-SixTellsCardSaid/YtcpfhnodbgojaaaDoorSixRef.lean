/- What the document's reading of eight pieces computes: the plain law's six. -/
import Derived.Test.YtcpfhnodbgojaaaDoorSixFour
import Derived.Test.YtcpfhnodbgojaaaDoorPFx9
set_option linter.unusedVariables false
set_option linter.unusedSimpArgs false
namespace Go.Proofs.YtcpfhnodbgojaaaDoor.Six
open Go.RowKit Go.Proofs.YtcpfhnodbgojaaaDoor.PF Go.Proofs.YtcpfhnodbgojaaaDoorW.PrintWords Go.Proofs.YtcpfhnodbgojaaaDoorW.PrintMore Go.Proofs.YtcpfhnodbgojaaaDoorK Go.Proofs.YtcpfhnodbgojaaaDoor.Four

def Tells {α : Type} (o : Option α) (v : α × Bool) : Prop := match o with | some a => v = (a, true) | none => v.2 = false
/-! ### A piece -/
def rtest (n : Nat) : Bool := match gossamerref4_Digit.f 4 (n : Int) with | some v => if dvN n < 16 then decide (v = dvN n) else decide (v < 0) | none => false
theorem rtest_all : ∀ n : Fin 256, rtest n.val = true := by decide +kernel
theorem ref_digit (c : UInt8) : ∃ v : Int, Ev (fun k => gossamerref4_Digit.f k (c.toNat : Int)) v ∧ (hexd c = true → v = dv c) ∧ (hexd c = false → v < 0) := by
  have h := rtest_all ⟨c.toNat, c.toNat_lt⟩
  unfold rtest at h
  simp only [] at h
  cases hv : gossamerref4_Digit.f 4 (c.toNat : Int) with
  | none => rw [hv] at h; cases h
  | some v =>
    rw [hv] at h
    refine ⟨v, Ev.of (g := fun k => gossamerref4_Digit.f k (c.toNat : Int)) (fun k => gossamerref4_Digit.mono _ k) hv, fun hd => ?_, fun hd => ?_⟩
    · simp only [] at h
      rw [if_pos (show dvN c.toNat < 16 from of_decide_eq_true hd)] at h
      exact of_decide_eq_true h
    · simp only [] at h
      rw [if_neg (show ¬ dvN c.toNat < 16 from of_decide_eq_false hd)] at h
      exact of_decide_eq_true h
theorem piece_loop (r : List UInt8) : ∀ p : List UInt8, p.length ≤ 5 → p.all hexd = true → (p ++ r).length ≤ 1000 →
    ∃ v, Ev (fun k => gossamerref9_piece.l0 k (S (p ++ r)) (val p) (p.length : Int)) v ∧ Tells (pieceL (p ++ r)) v := by
  induction r with
  | nil =>
    intro p hp h hl
    rw [List.append_nil] at hl ⊢
    by_cases h1 : p = []
    · subst h1
      refine ⟨(0, false), ⟨2, fun n hn => ?_⟩, rfl⟩
      obtain ⟨m, rfl⟩ : ∃ m, n = m + 2 := ⟨n - 2, by omega⟩
      rfl
    · have hpos : 0 < p.length := List.length_pos_iff.2 h1
      refine ⟨(val p, decide ((p.length : Int) ≤ 4)), ⟨2, fun n hn => ?_⟩, ?_⟩
      · obtain ⟨m, rfl⟩ : ∃ m, n = m + 2 := ⟨n - 2, by omega⟩
        simp only [gossamerref9_piece.l0, gossamerref9_piece.j1, size_S]
        rw [if_neg (by omega), if_neg (by decide), if_pos (by omega)]
      · unfold pieceL
        by_cases h4 : p.length ≤ 4
        · rw [if_pos ⟨h1, h4, h⟩]
          show (val p, decide ((p.length : Int) ≤ 4)) = (val p, true)
          rw [decide_eq_true (by omega)]
        · rw [if_neg (fun e => h4 e.2.1)]
          show decide ((p.length : Int) ≤ 4) = false
          rw [decide_eq_false (by omega)]
  | cons c r ih =>
    intro p hp h hl
    simp only [List.length_append, List.length_cons] at hl
    have hi : (p.length : Int) < ((S (p ++ c :: r)).size : Int) := by rw [size_S]; simp only [List.length_append, List.length_cons]; omega
    by_cases h5 : p.length = 5
    · refine ⟨(val p, false), ⟨2, fun n hn => ?_⟩, ?_⟩
      · obtain ⟨m, rfl⟩ : ∃ m, n = m + 2 := ⟨n - 2, by omega⟩
        simp only [gossamerref9_piece.l0, gossamerref9_piece.j1, if_pos hi]
        rw [decide_eq_false (show ¬ (p.length : Int) < 5 by omega), if_neg (by decide), if_pos (by omega), decide_eq_false (by omega)]
      · unfold pieceL
        rw [if_neg (fun e => by have := e.2.1; simp at this; omega)]
        rfl
    · obtain ⟨v, hv, h1, h2⟩ := ref_digit c
      cases hc : hexd c with
      | false =>
        have hv0 := h2 hc
        refine ⟨(0, false), ?_, ?_⟩
        · obtain ⟨K, hK⟩ := hv
          refine ⟨K + 2, fun n hn => ?_⟩
          obtain ⟨m, rfl⟩ : ∃ m, n = m + 2 := ⟨n - 2, by omega⟩
          have e := hK m (by omega)
          simp only [gossamerref9_piece.l0, gossamerref9_piece.j1, if_pos hi]
          rw [decide_eq_true (show (p.length : Int) < 5 by omega), if_pos rfl, if_pos (by omega), bt_mid]
          simp only [] at e
          rw [e, Option.bind_some, if_pos hv0]
        · unfold pieceL
          rw [if_neg (fun e => by have := e.2.2; simp [hc] at this)]
          rfl
      | true =>
        have hvd := h1 hc
        have hbd := dv_bd hc
        have hval := val_bd p h
        have hv5 : val p < 65536 := by
          have : (16 : Int) ^ p.length ≤ 16 ^ 4 := by
            have : (16 : Nat) ^ p.length ≤ 16 ^ 4 := Nat.pow_le_pow_right (by omega) (by omega)
            exact_mod_cast this
          omega
        obtain ⟨w, hw, ht⟩ := ih (p ++ [c]) (by simp; omega) (by rw [List.all_append, h]; simp [hc]) (by simp; omega)
        have e1 : p ++ [c] ++ r = p ++ c :: r := by simp
        rw [e1] at hw ht
        rw [val_snoc] at hw
        refine ⟨w, ?_, ht⟩
        obtain ⟨K, hK⟩ := hv
        obtain ⟨K2, hK2⟩ := hw
        refine ⟨max K K2 + 2, fun n hn => ?_⟩
        obtain ⟨m, rfl⟩ : ∃ m, n = m + 2 := ⟨n - 2, by omega⟩
        have e := hK m (by omega)
        have e2 := hK2 m (by omega)
        simp only [gossamerref9_piece.l0, gossamerref9_piece.j1, if_pos hi]
        rw [decide_eq_true (show (p.length : Int) < 5 by omega), if_pos rfl, if_pos (by omega), bt_mid]
        simp only [] at e e2
        rw [e, Option.bind_some, if_neg (by omega), wrap64_id (x := val p * 16) (by omega) (by omega), wrap64_id (by omega) (by omega), next_mid p c (by omega), hvd]
        exact e2
theorem ref_piece (t : List UInt8) (hl : t.length ≤ 1000) : ∃ v, Ev (fun k => gossamerref9_piece.f k (S t)) v ∧ Tells (pieceL t) v := piece_loop t [] (by simp) rfl hl

/-! ### Four numbers -/
def upd (i : Int) (x : Int) (j : Int) (v : Int) : Int := if i = j then x else v
theorem rd_upd {i : Nat} (hi : i < 4) (x v0 v1 v2 v3 : Int) : rd ([upd i x 0 v0, upd i x 1 v1, upd i x 2 v2, upd i x 3 v3] : List Int) (i : Int) = x := by
  rcases i with _ | _ | _ | _ | i
  · rfl
  · rfl
  · rfl
  · rfl
  · omega
theorem upd_upd (i : Int) (x y j v : Int) : upd i y j (upd i x j v) = upd i y j v := by unfold upd; split <;> rfl
theorem dig_byte (c : UInt8) : (dig c = true → ¬ (c.toNat : Int) < 48 ∧ ¬ (c.toNat : Int) > 57) ∧ (dig c = false → (c.toNat : Int) < 48 ∨ (c.toNat : Int) > 57) := by
  unfold dig
  refine ⟨fun h => ?_, fun h => ?_⟩
  · have := of_decide_eq_true h; omega
  · have := of_decide_eq_false h; omega
theorem four_l1 {T : List (List UInt8)} {i : Nat} {t : List UInt8} (hT : T.length = 4) (hi : i < 4) (ht : rdOf ByteArray.empty (T.map S) (i : Int) = S t) (h3 : t.length ≤ 3) {R : Int × Int × Bool} :
    ∀ (r p : List UInt8) (x v0 v1 v2 v3 : Int), t = p ++ r → 0 ≤ x → x < 10 ^ p.length → rd ([v0, v1, v2, v3] : List Int) (i : Int) = x →
    (match decF r x with
      | none => R = (0, 0, false)
      | some v => if 255 < v then R = (0, 0, false) else Ev (fun k => gossamerref9_four.l0 k (T.map S) ((i : Int) + 1) (upd i v 0 v0) (upd i v 1 v1) (upd i v 2 v2) (upd i v 3 v3)) R) →
    Ev (fun k => gossamerref9_four.l1 k (T.map S) (i : Int) (p.length : Int) v0 v1 v2 v3) R := by
  have hlen : (i : Int) < ((T.map S).length : Int) := by rw [List.length_map]; omega
  intro r
  induction r with
  | nil =>
    intro p x v0 v1 v2 v3 hp h0 hx hr h
    rw [List.append_nil] at hp
    subst hp
    simp only [decF] at h
    by_cases h255 : 255 < x
    · rw [if_pos h255] at h
      subst h
      refine ⟨1, fun n hn => ?_⟩
      obtain ⟨m, rfl⟩ : ∃ m, n = m + 1 := ⟨n - 1, by omega⟩
      simp only [gossamerref9_four.l1]
      rw [if_pos (by omega), if_pos hlen, ht, size_S, if_neg (by omega), if_pos (by omega), hr, if_pos h255]
    · rw [if_neg h255] at h
      refine Ev.step (fun k => ?_) h
      simp only [gossamerref9_four.l1]
      rw [if_pos (by omega), if_pos hlen, ht, size_S, if_neg (by omega), if_pos (by omega), hr, if_neg h255, wrap64_id (by omega) (by omega)]
      have hsame : ∀ (j : Nat) (v : Int), j < 4 → ([v0, v1, v2, v3] : List Int)[j]? = some v → upd i x j v = v := by
        intro j v hj hv
        unfold upd
        split
        · rename_i e
          have e : i = j := by omega
          subst e
          rw [← hr]
          unfold rd
          rw [Int.toNat_natCast, List.getD_eq_getElem?_getD, hv]
          rfl
        · rfl
      have g0 : upd i x 0 v0 = v0 := hsame 0 v0 (by omega) rfl
      have g1 : upd i x 1 v1 = v1 := hsame 1 v1 (by omega) rfl
      have g2 : upd i x 2 v2 = v2 := hsame 2 v2 (by omega) rfl
      have g3 : upd i x 3 v3 = v3 := hsame 3 v3 (by omega) rfl
      rw [g0, g1, g2, g3]
  | cons c r ih =>
    intro p x v0 v1 v2 v3 hp h0 hx hr h
    have hpl : p.length < t.length := by rw [hp]; simp
    have hx3 : x < 1000 := by
      have : (10 : Int) ^ p.length ≤ 10 ^ 3 := by
        have : (10 : Nat) ^ p.length ≤ 10 ^ 3 := Nat.pow_le_pow_right (by omega) (by omega)
        exact_mod_cast this
      omega
    have hbt : bt (S t) (p.length : Int) = (c.toNat : Int) := by rw [hp]; exact bt_mid p c r
    rw [decF] at h
    obtain ⟨hd1, hd2⟩ := dig_byte c
    cases hc : dig c with
    | false =>
      rw [hc] at h
      simp only [Bool.false_eq_true, if_false] at h
      subst h
      refine ⟨1, fun n hn => ?_⟩
      obtain ⟨m, rfl⟩ : ∃ m, n = m + 1 := ⟨n - 1, by omega⟩
      simp only [gossamerref9_four.l1]
      rw [if_pos (by omega), if_pos hlen, ht, size_S, if_pos (by omega), if_pos (by omega), hbt]
      rcases hd2 hc with h | h
      · rw [if_pos h]
      · rw [if_neg (by omega), if_pos h]
    | true =>
      rw [hc] at h
      simp only [if_true] at h
      obtain ⟨n1, n2⟩ := hd1 hc
      have hw1 : wrap64 (x * 10) = x * 10 := wrap64_id (by omega) (by omega)
      have hw2 : wrap64 (((c.toNat : Int) - 48) % 256) = (c.toNat : Int) - 48 := by rw [wrap64_id (by omega) (by omega)]; omega
      have hw3 : wrap64 (x * 10 + ((c.toNat : Int) - 48)) = x * 10 + ((c.toNat : Int) - 48) := wrap64_id (by omega) (by omega)
      have hpow : x * 10 + ((c.toNat : Int) - 48) < 10 ^ (p ++ [c]).length := by
        rw [List.length_append, List.length_singleton, Int.pow_succ]
        omega
      have hn := ih (p ++ [c]) (x * 10 + ((c.toNat : Int) - 48)) (upd i (x * 10 + ((c.toNat : Int) - 48)) 0 v0) (upd i (x * 10 + ((c.toNat : Int) - 48)) 1 v1) (upd i (x * 10 + ((c.toNat : Int) - 48)) 2 v2) (upd i (x * 10 + ((c.toNat : Int) - 48)) 3 v3) (by rw [hp]; simp) (by omega) hpow (rd_upd hi _ _ _ _ _) (by
          simp only [upd_upd]
          exact h)
      refine Ev.step (fun k => ?_) hn
      simp only [gossamerref9_four.l1]
      rw [if_pos (by omega), if_pos hlen, ht, size_S, if_pos (by omega), if_pos (by omega), hbt, if_neg n1, if_neg n2, if_pos (by omega), hr, hw1, hw2, hw3, next_mid p c (by omega)]
      rfl
theorem four_l0 {T : List (List UInt8)} {i : Nat} {t : List UInt8} (hT : T.length = 4) (hi : i < 4) (ht : rdOf ByteArray.empty (T.map S) (i : Int) = S t) {R : Int × Int × Bool} (v0 v1 v2 v3 : Int) (hr : rd ([v0, v1, v2, v3] : List Int) (i : Int) = 0)
    (h : match oct t with
      | none => R = (0, 0, false)
      | some v => Ev (fun k => gossamerref9_four.l0 k (T.map S) ((i : Int) + 1) (upd i v 0 v0) (upd i v 1 v1) (upd i v 2 v2) (upd i v 3 v3)) R) :
    Ev (fun k => gossamerref9_four.l0 k (T.map S) (i : Int) v0 v1 v2 v3) R := by
  have hlen : (i : Int) < ((T.map S).length : Int) := by rw [List.length_map]; omega
  unfold oct at h
  by_cases h1 : t.length < 1
  · rw [if_pos (.inl h1)] at h
    simp only [] at h
    subst h
    refine ⟨2, fun n hn => ?_⟩
    obtain ⟨m, rfl⟩ : ∃ m, n = m + 2 := ⟨n - 2, by omega⟩
    simp only [gossamerref9_four.l0, gossamerref9_four.j1]
    rw [if_pos (by omega), if_pos (by omega), if_pos hlen, ht, size_S, if_pos (by omega)]
    rfl
  by_cases h2 : 3 < t.length
  · rw [if_pos (.inr (.inl h2))] at h
    simp only [] at h
    subst h
    refine ⟨2, fun n hn => ?_⟩
    obtain ⟨m, rfl⟩ : ∃ m, n = m + 2 := ⟨n - 2, by omega⟩
    simp only [gossamerref9_four.l0, gossamerref9_four.j1]
    rw [if_pos (by omega), if_pos (by omega), if_pos hlen, ht, size_S, if_neg (by omega), if_pos (by omega)]
    rfl
  obtain ⟨c, r, rfl⟩ : ∃ c r, t = c :: r := by
    cases t with
    | nil => simp at h1
    | cons c r => exact ⟨c, r, rfl⟩
  have hb0 : bt (S (c :: r)) 0 = (c.toNat : Int) := bt_mid [] c r
  have hc48 : (c.toNat : Int) = 48 ↔ c = 48 := byte_eq (z := 48) (by omega) (by omega)
  have hstep : ∀ m, gossamerref9_four.l0 (m + 1) (T.map S) (i : Int) v0 v1 v2 v3 = gossamerref9_four.j1 m (T.map S) (i : Int) (decide (1 < (c :: r).length ∧ (c :: r).head? = some 48)) v0 v1 v2 v3 := by
    intro m
    simp only [gossamerref9_four.l0]
    rw [if_pos (by omega), if_pos (by omega), if_pos hlen, ht, size_S, if_neg (by omega), if_neg (by omega)]
    by_cases hl1 : 1 < (c :: r).length
    · rw [if_pos (by omega), if_pos (by omega), hb0]
      congr 1
      rw [show ((c.toNat : Int) == 48) = decide ((c.toNat : Int) = 48) from rfl, decide_eq_decide]
      rw [hc48]
      simp [hl1]
      intro _
      simpa using hl1
    · rw [if_neg (by omega), decide_eq_false (fun e => hl1 e.1)]
  by_cases hz : 1 < (c :: r).length ∧ (c :: r).head? = some 48
  · rw [if_pos (.inr (.inr hz))] at h
    simp only [] at h
    subst h
    refine ⟨2, fun n hn => ?_⟩
    obtain ⟨m, rfl⟩ : ∃ m, n = m + 2 := ⟨n - 2, by omega⟩
    show gossamerref9_four.l0 (m + 1 + 1) _ _ _ _ _ _ = _
    rw [hstep (m + 1), decide_eq_true hz]
    simp only [gossamerref9_four.j1, if_true]
  · rw [if_neg (by rintro (e | e | e); exact h1 e; exact h2 e; exact hz e)] at h
    have hn := four_l1 hT hi ht (by omega) (R := R) (c :: r) [] 0 v0 v1 v2 v3 rfl (by omega) (by simp) hr (by
      cases hd : decF (c :: r) 0 with
      | none => rw [hd] at h; exact h
      | some v =>
        rw [hd] at h
        by_cases h255 : 255 < v
        · simp only [if_pos h255] at h ⊢
          exact h
        · simp only [if_neg h255] at h ⊢
          exact h)
    obtain ⟨K, hK⟩ := hn
    refine ⟨K + 2, fun n hn => ?_⟩
    obtain ⟨m, rfl⟩ : ∃ m, n = m + 2 := ⟨n - 2, by omega⟩
    show gossamerref9_four.l0 (m + 1 + 1) _ _ _ _ _ _ = _
    rw [hstep (m + 1), decide_eq_false hz]
    simp only [gossamerref9_four.j1]
    rw [if_neg (by decide)]
    exact hK m (by omega)
theorem oct_bd {t : List UInt8} {v : Int} (h : oct t = some v) : 0 ≤ v ∧ v < 256 := by
  obtain ⟨n, hn, rfl, _⟩ := oct_is h
  omega
theorem wraps_i64 (n : Int) (h0 : 0 ≤ n) (h1 : n < 2 ^ 62) : IntKind.i64.wrap n = n := by
  have e : (2 : Int) ^ 62 = 4611686018427387904 := rfl
  have := wrap64_id (x := n) (by omega) (by omega)
  rw [IntKind.wrap_i64]
  unfold wrap64 at this
  exact this
theorem join_i64 {x y : Int} (hx0 : 0 ≤ x) (hx1 : x < 256) (hy0 : 0 ≤ y) (hy1 : y < 256) : Go.bits .or .i64 (wrap64 (x * 256)) y = x * 256 + y := by
  rw [wrap64_id (by omega) (by omega)]
  have e : (2 : Int) ^ 62 = 4611686018427387904 := rfl
  exact bits_join .i64 62 (by decide) wraps_i64 8 (x * 256) y (by omega) (by omega) (by omega) hy0 (by omega) (by omega)
theorem ref_four (l : List UInt8) (hl : l.length ≤ 1000) : Ev (fun k => gossamerref9_four.f k (S l)) (fourV fourL l) := by
  unfold gossamerref9_four.f
  have hp := parts_f 46 l (by omega)
  refine Ev.bind (f := fun k t => if ((t : List ByteArray).length : Int) = 4 then gossamerref9_four.l0 k t 0 0 0 0 0 else some (0, 0, false)) hp ?_
  by_cases h4 : (splitC 46 l).length = 4
  · obtain ⟨p, q, r, s, hs⟩ : ∃ p q r s, splitC 46 l = [p, q, r, s] := by
      match hL : splitC 46 l, h4 with
      | [p, q, r, s], _ => exact ⟨p, q, r, s, rfl⟩
    have hR : fourV fourL l = match (oct p).bind fun a => (oct q).bind fun b => (oct r).bind fun c => (oct s).map fun d => (a * 256 + b, c * 256 + d) with | some (a, b) => (a, b, true) | none => (0, 0, false) := by
      unfold fourV fourL
      rw [hs]
      rfl
    rw [hR, hs]
    refine Ev.congr (f := fun k => gossamerref9_four.l0 k ([p, q, r, s].map S) ((0 : Nat) : Int) 0 0 0 0) (fun k => if_pos (by rfl)) ?_
    refine four_l0 (i := 0) (T := [p, q, r, s]) (t := p) rfl (by omega) rfl 0 0 0 0 rfl ?_
    cases hp : oct p with
    | none => rfl
    | some a =>
      have ba := oct_bd hp
      show Ev (fun k => gossamerref9_four.l0 k ([p, q, r, s].map S) ((1 : Nat) : Int) a 0 0 0) _
      refine four_l0 (i := 1) (T := [p, q, r, s]) (t := q) rfl (by omega) rfl a 0 0 0 rfl ?_
      cases hq : oct q with
      | none => rfl
      | some b =>
        have bb := oct_bd hq
        show Ev (fun k => gossamerref9_four.l0 k ([p, q, r, s].map S) ((2 : Nat) : Int) a b 0 0) _
        refine four_l0 (i := 2) (T := [p, q, r, s]) (t := r) rfl (by omega) rfl a b 0 0 rfl ?_
        cases hr : oct r with
        | none => rfl
        | some c =>
          have bc := oct_bd hr
          show Ev (fun k => gossamerref9_four.l0 k ([p, q, r, s].map S) ((3 : Nat) : Int) a b c 0) _
          refine four_l0 (i := 3) (T := [p, q, r, s]) (t := s) rfl (by omega) rfl a b c 0 rfl ?_
          cases hs : oct s with
          | none => rfl
          | some d =>
            have bd := oct_bd hs
            show Ev (fun k => gossamerref9_four.l0 k ([p, q, r, s].map S) 4 a b c d) (a * 256 + b, c * 256 + d, true)
            refine ⟨1, fun n hn => ?_⟩
            obtain ⟨m, rfl⟩ : ∃ m, n = m + 1 := ⟨n - 1, by omega⟩
            simp only [gossamerref9_four.l0]
            rw [if_neg (by decide), join_i64 ba.1 ba.2 bb.1 bb.2, join_i64 bc.1 bc.2 bd.1 bd.2]
  · have hR : fourV fourL l = (0, 0, false) := by
      unfold fourV fourL
      split
      · rename_i hf
        split at hf
        · rename_i hs
          exact absurd (by rw [hs]; rfl) h4
        · cases hf
      · rfl
    rw [hR]
    exact Ev.congr (f := fun _ => some (0, 0, false)) (fun k => if_neg (by rw [List.length_map]; omega)) (Ev.now _)

theorem row_j {T : List (List UInt8)} {last : Bool} {i : Nat} {t : List UInt8} {R' : List (List UInt8)} {acc : List Int} (hi : i < T.length) (ht : rdOf ByteArray.empty (T.map S) (i : Int) = S t) (htl : t.length ≤ 1000) (hT : T.length ≤ 10) (ha : acc.length ≤ 20)
    (ih : ∀ n, pieceL t = some n → ∃ v, Ev (fun k => gossamerref9_row.l0 k last (acc ++ [n]) (T.map S) ((i : Int) + 1)) v ∧ Tells ((rowL fourL R' last).map (fun L => acc ++ [n] ++ L)) v) (x9 x10 : Int) :
    ∃ v, Ev (fun k => gossamerref9_row.j1 k last acc (T.map S) (i : Int) x9 x10 false) v ∧ Tells (((pieceL t).bind fun n => (rowL fourL R' last).map fun L => n :: L).map (fun L => acc ++ L)) v := by
  have hlen : (i : Int) < ((T.map S).length : Int) := by rw [List.length_map]; omega
  obtain ⟨pv, ⟨K, hK⟩, hp⟩ := ref_piece t htl
  cases hpt : pieceL t with
  | none =>
    rw [hpt] at hp
    refine ⟨(acc, false), ⟨K + 1, fun n hn => ?_⟩, rfl⟩
    obtain ⟨m, rfl⟩ : ∃ m, n = m + 1 := ⟨n - 1, by omega⟩
    have e := hK m (by omega)
    simp only [] at e
    simp only [gossamerref9_row.j1]
    rw [if_neg (by decide), if_pos (by omega), if_pos hlen, ht, e, Option.bind_some, if_neg (by rw [show pv.2 = false from hp]; decide)]
  | some x =>
    rw [hpt] at hp
    obtain rfl : pv = (x, true) := hp
    obtain ⟨v, ⟨K2, hK2⟩, hv⟩ := ih x hpt
    refine ⟨v, ⟨max K K2 + 1, fun n hn => ?_⟩, ?_⟩
    · obtain ⟨m, rfl⟩ : ∃ m, n = m + 1 := ⟨n - 1, by omega⟩
      have e := hK m (by omega)
      have e2 := hK2 m (by omega)
      simp only [] at e e2
      simp only [gossamerref9_row.j1]
      rw [if_neg (by decide), if_pos (by omega), if_pos hlen, ht, e, Option.bind_some, if_pos rfl, if_pos (by omega), wrap64_id (by omega) (by omega)]
      exact e2
    · rw [Option.bind_some]
      cases hr : rowL fourL R' last with
      | none => rw [hr] at hv; exact hv
      | some L =>
        rw [hr] at hv
        simpa [Tells] using hv
theorem row_end (T : List (List UInt8)) (last : Bool) (acc : List Int) : Ev (fun k => gossamerref9_row.l0 k last acc (T.map S) (T.length : Int)) (acc, true) := by
  refine ⟨1, fun n hn => ?_⟩
  obtain ⟨m, rfl⟩ : ∃ m, n = m + 1 := ⟨n - 1, by omega⟩
  simp only [gossamerref9_row.l0]
  rw [if_neg (by rw [List.length_map]; omega)]
theorem row_plain {t : List UInt8} {R : List (List UInt8)} {last : Bool} (h : ¬ (last = true ∧ R = [] ∧ (fourL t).isSome = true)) :
    rowL fourL (t :: R) last = (pieceL t).bind fun n => (rowL fourL R last).map fun L => n :: L := by
  by_cases hR : R = []
  · subst hR
    have e : ((pieceL t).bind fun n => (rowL fourL [] last).map fun L => n :: L) = (pieceL t).map fun n => [n] := by
      rw [rowL]
      cases pieceL t <;> rfl
    rw [e, rowL]
    by_cases hl : last = true
    · rw [if_pos hl]
      cases hf : fourL t with
      | none => rfl
      | some x => exact absurd ⟨hl, rfl, by rw [hf]; rfl⟩ h
    · rw [if_neg hl]
  · exact row_more hR last
theorem row_loop (T : List (List UInt8)) (last : Bool) (hT : T.length ≤ 8) (hs : ∀ t ∈ T, t.length ≤ 1000) (R : List (List UInt8)) : ∀ (P : List (List UInt8)) (acc : List Int), T = P ++ R → acc.length ≤ P.length →
    ∃ v, Ev (fun k => gossamerref9_row.l0 k last acc (T.map S) (P.length : Int)) v ∧ Tells ((rowL fourL R last).map (fun L => acc ++ L)) v := by
  induction R with
  | nil =>
    intro P acc hP ha
    rw [List.append_nil] at hP
    subst hP
    refine ⟨(acc, true), row_end _ _ _, ?_⟩
    rw [rowL]
    simp [Tells]
  | cons t R ih =>
    intro P acc hP ha
    have hTl : T.length = P.length + R.length + 1 := by rw [hP]; simp; omega
    have ht : rdOf ByteArray.empty (T.map S) (P.length : Int) = S t := map_at hP
    have hlen : (P.length : Int) < ((T.map S).length : Int) := by rw [List.length_map]; omega
    have htl : t.length ≤ 1000 := hs t (by rw [hP]; simp)
    have hnext : ∀ n : Int, ∃ v, Ev (fun k => gossamerref9_row.l0 k last (acc ++ [n]) (T.map S) ((P.length : Int) + 1)) v ∧ Tells ((rowL fourL R last).map (fun L => acc ++ [n] ++ L)) v := fun n => by
      have := ih (P ++ [t]) (acc ++ [n]) (by rw [hP]; simp) (by simp; omega)
      rw [List.length_append, List.length_singleton] at this
      exact this
    have hj := fun x9 x10 => row_j (T := T) (last := last) (i := P.length) (t := t) (R' := R) (acc := acc) (by omega) ht htl (by omega) (by omega) (fun n _ => hnext n) x9 x10
    obtain ⟨K1, hK1⟩ := ref_four t htl
    have hw : wrap64 (((T.map S).length : Int) - 1) = (T.length : Int) - 1 := by rw [List.length_map]; exact wrap64_id (by omega) (by omega)
    by_cases hspec : last = true ∧ R = [] ∧ (fourL t).isSome = true
    · obtain ⟨rfl, rfl, hf⟩ := hspec
      obtain ⟨⟨a, b⟩, hf⟩ := Option.isSome_iff_exists.1 hf
      obtain ⟨K2, hK2⟩ := row_end T true (acc ++ [a, b])
      refine ⟨(acc ++ [a, b], true), ⟨max K1 K2 + 2, fun n hn => ?_⟩, ?_⟩
      · obtain ⟨m, rfl⟩ : ∃ m, n = m + 2 := ⟨n - 2, by omega⟩
        have e := hK1 (m + 1) (by omega)
        have e2 := hK2 m (by omega)
        simp only [] at e e2
        have hV : fourV fourL t = (a, b, true) := by unfold fourV; rw [hf]
        have hlast : ((P.length : Int) == (T.length : Int) - 1) = true := by
          rw [beq_iff_eq]
          simp only [List.length_nil] at hTl
          omega
        simp only [gossamerref9_row.l0]
        rw [if_pos hlen, if_pos (by omega), ht, e, Option.bind_some, hV]
        simp only [if_true]
        rw [hw, hlast]
        simp only [gossamerref9_row.j1, if_true, Option.bind_some]
        simp only [List.length_nil] at hTl
        rw [if_pos (by simp only [List.length_cons, List.length_nil]; omega), wrap64_id (by omega) (by omega), show (P.length : Int) + 1 = (T.length : Int) by omega]
        exact e2
      · rw [rowL, if_pos rfl, hf]
        rfl
    · have hx : ∃ x9 x10, ∀ m, K1 ≤ m → gossamerref9_row.l0 (m + 1) last acc (T.map S) (P.length : Int) = gossamerref9_row.j1 m last acc (T.map S) (P.length : Int) x9 x10 false := by
        refine ⟨(fourV fourL t).1, (fourV fourL t).2.1, fun m hm => ?_⟩
        have e := hK1 m hm
        simp only [] at e
        simp only [gossamerref9_row.l0]
        rw [if_pos hlen, if_pos (by omega), ht, e, Option.bind_some, hw]
        by_cases hf : (fourV fourL t).2.2 = true
        · rw [if_pos hf]
          by_cases hl : last = true
          · rw [if_pos hl]
            have hR : R ≠ [] := by
              rintro rfl
              apply hspec
              refine ⟨hl, rfl, ?_⟩
              unfold fourV at hf
              split at hf
              · rename_i h4; rw [h4]; rfl
              · cases hf
            have hRp : 0 < R.length := List.length_pos_iff.2 hR
            have : ((P.length : Int) == (T.length : Int) - 1) = false := by
              rw [beq_eq_false_iff_ne]
              omega
            rw [this]
          · rw [if_neg hl]
        · rw [if_neg hf]
      obtain ⟨x9, x10, hx⟩ := hx
      obtain ⟨v, ⟨K2, hK2⟩, hv⟩ := hj x9 x10
      refine ⟨v, ⟨max K1 K2 + 1, fun n hn => ?_⟩, ?_⟩
      · obtain ⟨m, rfl⟩ : ∃ m, n = m + 1 := ⟨n - 1, by omega⟩
        show gossamerref9_row.l0 (m + 1) _ _ _ _ = _
        rw [hx m (by omega)]
        exact hK2 m (by omega)
      · rw [row_plain hspec]
        exact hv
theorem ref_row (l : List UInt8) (last : Bool) (hl : l.length ≤ 1000) : ∃ v, Ev (fun k => gossamerref9_row.f k (S l) last) v ∧ Tells (rowT (four := fourL) l last) v := by
  unfold gossamerref9_row.f rowT
  rw [toList_S]
  by_cases h0 : l = []
  · rw [if_pos h0]
    exact ⟨([], true), Ev.congr (fun k => if_pos h0) (Ev.now _), rfl⟩
  · rw [if_neg h0]
    have hp := parts_f 58 l (by omega)
    by_cases h8 : 8 < (splitC 58 l).length
    · rw [if_pos h8]
      refine ⟨([], false), Ev.congr (fun k => if_neg h0) (Ev.bind (f := fun k t => if ((t : List ByteArray).length : Int) > 8 then some (([] : List Int), false) else gossamerref9_row.l0 k last ([] : List Int) t 0) hp ?_), rfl⟩
      exact Ev.congr (fun k => if_pos (by rw [List.length_map]; omega)) (Ev.now _)
    · rw [if_neg h8]
      obtain ⟨v, hv, ht⟩ := row_loop (splitC 58 l) last (by omega) (fun t htm => by have := mem_splitC t htm; omega) (splitC 58 l) [] [] rfl (by simp)
      refine ⟨v, Ev.congr (fun k => if_neg h0) (Ev.bind (f := fun k t => if ((t : List ByteArray).length : Int) > 8 then some (([] : List Int), false) else gossamerref9_row.l0 k last ([] : List Int) t 0) hp ?_), ?_⟩
      · exact Ev.congr (fun k => if_neg (by rw [List.length_map]; omega)) hv
      · simpa using ht
/-- A row's numbers are of 16 bits. -/
def Word (x : Int) : Prop := 0 ≤ x ∧ x < 65536
theorem piece_word {t : List UInt8} {n : Int} (h : pieceL t = some n) : Word n := by
  unfold pieceL at h
  split at h
  · rename_i hp
    injection h with h
    subst h
    have := val_bd t hp.2.2
    have h4 : (16 : Int) ^ t.length ≤ 16 ^ 4 := by
      have : (16 : Nat) ^ t.length ≤ 16 ^ 4 := Nat.pow_le_pow_right (by omega) hp.2.1
      exact_mod_cast this
    exact ⟨this.1, by omega⟩
  · cases h
theorem four_word {t : List UInt8} {a b : Int} (h : fourL t = some (a, b)) : Word a ∧ Word b := by
  obtain ⟨a', b', c', d', ha, hb, hc, hd, rfl⟩ := four_is h
  rw [four_text ha hb hc hd] at h
  injection h with h
  injection h with h1 h2
  subst h1 h2
  unfold Word
  omega
theorem row_word : ∀ (R : List (List UInt8)) (last : Bool) (L : List Int), rowL fourL R last = some L → ∀ x ∈ L, Word x
  | [], _, L, h, x, hx => by rw [rowL] at h; injection h with h; subst h; cases hx
  | t :: R, last, L, h, x, hx => by
    by_cases hs : last = true ∧ R = [] ∧ (fourL t).isSome = true
    · obtain ⟨rfl, rfl, hf⟩ := hs
      obtain ⟨⟨a, b⟩, hf⟩ := Option.isSome_iff_exists.1 hf
      rw [rowL, if_pos rfl, hf] at h
      injection h with h
      subst h
      obtain ⟨wa, wb⟩ := four_word hf
      simp at hx
      rcases hx with rfl | rfl
      · exact wa
      · exact wb
    · rw [row_plain hs] at h
      obtain ⟨n, hn, h⟩ := Option.bind_eq_some_iff.1 h
      obtain ⟨M, hM, rfl⟩ := Option.map_eq_some_iff.1 h
      rcases List.mem_cons.1 hx with rfl | hx
      · exact piece_word hn
      · exact row_word R last M hM x hx
theorem rowT_word {l : List UInt8} {last : Bool} {L : List Int} (h : rowT (four := fourL) l last = some L) : ∀ x ∈ L, Word x := by
  unfold rowT at h
  split at h
  · injection h with h; subst h; intro x hx; cases hx
  · split at h
    · cases h
    · exact row_word _ _ _ h
end Go.Proofs.YtcpfhnodbgojaaaDoor.Six
