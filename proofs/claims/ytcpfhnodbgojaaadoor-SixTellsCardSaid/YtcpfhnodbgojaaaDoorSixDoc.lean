/- The document's Parse computes the plain law's six. -/
import Derived.Test.YtcpfhnodbgojaaaDoorSixRef
set_option linter.unusedVariables false
set_option linter.unusedSimpArgs false
namespace Go.Proofs.YtcpfhnodbgojaaaDoor.Six
open Go.RowKit Go.Proofs.YtcpfhnodbgojaaaDoor.PF Go.Proofs.YtcpfhnodbgojaaaDoorW.PrintWords Go.Proofs.YtcpfhnodbgojaaaDoorW.PrintMore Go.Proofs.YtcpfhnodbgojaaaDoorK Go.Proofs.YtcpfhnodbgojaaaDoor.Four

def C1 (k : Nat) (L : List Int) (i : Int) (st : List Int) := gossamerref9_Parse.l1 k L i (st.getD 0 0) (st.getD 1 0) (st.getD 2 0) (st.getD 3 0) (st.getD 4 0) (st.getD 5 0) (st.getD 6 0) (st.getD 7 0)
def C2 (k : Nat) (A B : List Int) (i : Int) (st : List Int) := gossamerref9_Parse.l2 k A B i (st.getD 0 0) (st.getD 1 0) (st.getD 2 0) (st.getD 3 0) (st.getD 4 0) (st.getD 5 0) (st.getD 6 0) (st.getD 7 0)
def C3 (k : Nat) (B : List Int) (i : Int) (st : List Int) := gossamerref9_Parse.l3 k B i (st.getD 0 0) (st.getD 1 0) (st.getD 2 0) (st.getD 3 0) (st.getD 4 0) (st.getD 5 0) (st.getD 6 0) (st.getD 7 0)
theorem set_get (st : List Int) (i : Nat) (x : Int) (j : Nat) (z : Int) (hz : z = (j : Int)) (hi : i < st.length) : (st.set i x).getD j 0 = if (i : Int) = z then x else st.getD j 0 := by
  subst hz
  rw [List.getD_eq_getElem?_getD, List.getD_eq_getElem?_getD, List.getElem?_set]
  by_cases h : i = j
  · subst h
    rw [if_pos rfl, if_pos hi, if_pos rfl]
    rfl
  · rw [if_neg h, if_neg (by omega)]
theorem wrap_word {x : Int} (h : Word x) : IntKind.u16.wrap x = x := wrap_u16 h.1 h.2
theorem copy1 (r : List Int) : ∀ p : List Int, (p ++ r).length = 8 → (∀ x ∈ r, Word x) → Ev (fun k => C1 k (p ++ r) (p.length : Int) (pad p)) (ip6_Parse.nine (p ++ r, true)) := by
  induction r with
  | nil =>
    intro p hp _
    rw [List.append_nil] at hp ⊢
    refine ⟨1, fun n hn => ?_⟩
    obtain ⟨m, rfl⟩ : ∃ m, n = m + 1 := ⟨n - 1, by omega⟩
    have e : pad p = p := by unfold pad; rw [hp]; simp
    simp only [C1, gossamerref9_Parse.l1, e]
    rw [if_neg (by omega)]
    rfl
  | cons x r ih =>
    intro p hp hw
    have hp' := hp
    simp only [List.length_append, List.length_cons] at hp'
    have hpl := pad_len (acc := p) (by omega)
    have h := ih (p ++ [x]) (by simp; omega) (fun y hy => hw y (List.mem_cons_of_mem _ hy))
    rw [List.append_assoc] at h
    refine Ev.step (f := fun k => C1 k (p ++ ([x] ++ r)) ((p ++ [x]).length : Int) (pad (p ++ [x]))) (fun k => ?_) h
    simp only [C1, gossamerref9_Parse.l1]
    rw [if_pos (by omega), if_pos (by omega), if_pos (by rw [hp]; omega), rd_mid, wrap_word (hw x (by simp)), next_mid p x (by omega), ← pad_set (by omega) x]
    rw [set_get _ _ _ 0 0 rfl (by omega), set_get _ _ _ 1 1 rfl (by omega), set_get _ _ _ 2 2 rfl (by omega), set_get _ _ _ 3 3 rfl (by omega), set_get _ _ _ 4 4 rfl (by omega), set_get _ _ _ 5 5 rfl (by omega), set_get _ _ _ 6 6 rfl (by omega), set_get _ _ _ 7 7 rfl (by omega)]
    rfl
theorem copy3 (B : List Int) (hB : B.length ≤ 8) (r : List Int) : ∀ C p : List Int, B = p ++ r → C.length + B.length = 8 → (∀ x ∈ r, Word x) → Ev (fun k => C3 k B (p.length : Int) (pad (C ++ p))) (ip6_Parse.nine (C ++ B, true)) := by
  induction r with
  | nil =>
    intro C p hp hc _
    rw [List.append_nil] at hp
    subst hp
    refine ⟨1, fun n hn => ?_⟩
    obtain ⟨m, rfl⟩ : ∃ m, n = m + 1 := ⟨n - 1, by omega⟩
    have e : pad (C ++ B) = C ++ B := by
      have : 8 - (C ++ B).length = 0 := by simp; omega
      unfold pad; rw [this]; simp
    simp only [C3, gossamerref9_Parse.l3, e]
    rw [if_neg (by omega)]
    rfl
  | cons x r ih =>
    intro C p hp hc hw
    have hlen : B.length = p.length + r.length + 1 := by rw [hp]; simp; omega
    have hcl : (C ++ p).length < 8 := by simp; omega
    have hpl := pad_len (acc := C ++ p) (by omega)
    have h := ih C (p ++ [x]) (by rw [hp]; simp) hc (fun y hy => hw y (List.mem_cons_of_mem _ hy))
    refine Ev.step (f := fun k => C3 k B ((p ++ [x]).length : Int) (pad (C ++ (p ++ [x])))) (fun k => ?_) h
    have hrd : rd B (p.length : Int) = x := by rw [hp]; exact rd_mid p x r
    have hat : wrap64 (wrap64 (8 - (B.length : Int)) + (p.length : Int)) = ((C ++ p).length : Int) := by
      have e1 : wrap64 (8 - (B.length : Int)) = 8 - (B.length : Int) := wrap64_id (by omega) (by omega)
      have e2 : 8 - (B.length : Int) + (p.length : Int) = ((C ++ p).length : Int) := by rw [List.length_append]; omega
      rw [e1, e2]
      exact wrap64_id (by omega) (by omega)
    simp only [C3, gossamerref9_Parse.l3]
    rw [if_pos (by omega), if_pos (by omega), hat, if_pos (by omega), if_pos (by omega), hrd, wrap_word (hw x (by simp)), next_mid p x (by omega), ← List.append_assoc, ← pad_set hcl x]
    rw [set_get _ _ _ 0 0 rfl (by omega), set_get _ _ _ 1 1 rfl (by omega), set_get _ _ _ 2 2 rfl (by omega), set_get _ _ _ 3 3 rfl (by omega), set_get _ _ _ 4 4 rfl (by omega), set_get _ _ _ 5 5 rfl (by omega), set_get _ _ _ 6 6 rfl (by omega), set_get _ _ _ 7 7 rfl (by omega)]
theorem copy2 (A B : List Int) (hA : A.length ≤ 8) {R} (r : List Int) : ∀ p : List Int, A = p ++ r → (∀ x ∈ r, Word x) → Ev (fun k => C3 k B 0 (pad A)) R → Ev (fun k => C2 k A B (p.length : Int) (pad p)) R := by
  induction r with
  | nil =>
    intro p hp _ hR
    rw [List.append_nil] at hp
    subst hp
    refine Ev.step (fun k => ?_) hR
    simp only [C2, gossamerref9_Parse.l2]
    rw [if_neg (by omega)]
    rfl
  | cons x r ih =>
    intro p hp hw hR
    have hlen : A.length = p.length + r.length + 1 := by rw [hp]; simp; omega
    have hpl := pad_len (acc := p) (by omega)
    have h := ih (p ++ [x]) (by rw [hp]; simp) (fun y hy => hw y (List.mem_cons_of_mem _ hy)) hR
    refine Ev.step (f := fun k => C2 k A B ((p ++ [x]).length : Int) (pad (p ++ [x]))) (fun k => ?_) h
    have hrd : rd A (p.length : Int) = x := by rw [hp]; exact rd_mid p x r
    simp only [C2, gossamerref9_Parse.l2]
    rw [if_pos (by omega), if_pos (by omega), if_pos (by omega), hrd, wrap_word (hw x (by simp)), next_mid p x (by omega), ← pad_set (by omega) x]
    rw [set_get _ _ _ 0 0 rfl (by omega), set_get _ _ _ 1 1 rfl (by omega), set_get _ _ _ 2 2 rfl (by omega), set_get _ _ _ 3 3 rfl (by omega), set_get _ _ _ 4 4 rfl (by omega), set_get _ _ _ 5 5 rfl (by omega), set_get _ _ _ 6 6 rfl (by omega), set_get _ _ _ 7 7 rfl (by omega)]
theorem pad_more : ∀ (n : Nat) (A : List Int), A.length + n ≤ 8 → pad (A ++ List.replicate n 0) = pad A
  | 0, A, h => by simp
  | n + 1, A, h => by
    rw [List.replicate_succ, show A ++ (0 :: List.replicate n 0) = (A ++ [0]) ++ List.replicate n 0 by simp, pad_more n (A ++ [0]) (by simp; omega), pad_zero (by omega)]
/-! ### Where :: stands -/
def F (k : Nat) (s : ByteArray) (g i : Int) := gossamerref9_Parse.j1 k s g i false 0 0 0 0 0 0 0 0
theorem scan {l : List UInt8} (hl : l.length ≤ 1000) {R : Int × Int × Int × Int × Int × Int × Int × Int × Bool} (r : List UInt8) : ∀ p : List UInt8, l = p ++ r →
    (match firstDD r with
      | none => ∀ i, Ev (fun k => F k (S l) (-1) i) R
      | some x => ∀ i, Ev (fun k => F k (S l) ((p.length : Int) + (x.1.length : Int)) i) R) →
    Ev (fun k => gossamerref9_Parse.l0 k (S l) (-1) (p.length : Int) 0 0 0 0 0 0 0 0) R := by
  induction r with
  | nil =>
    intro p hp h
    refine Ev.step (fun k => ?_) (h (p.length : Int))
    rw [List.append_nil] at hp
    simp only [gossamerref9_Parse.l0, size_S]
    rw [wrap64_id (x := (p.length : Int) + 1) (by subst hp; omega) (by subst hp; omega), if_neg (by rw [hp]; omega)]
    rfl
  | cons c r ih =>
    intro p hp h
    have hpl : l.length = p.length + r.length + 1 := by rw [hp]; simp; omega
    have hw : wrap64 ((p.length : Int) + 1) = (p.length : Int) + 1 := wrap64_id (by omega) (by omega)
    cases r with
    | nil =>
      refine Ev.step (fun k => ?_) (h (p.length : Int))
      simp only [List.length_nil] at hpl
      simp only [gossamerref9_Parse.l0, size_S]
      rw [hw, if_neg (by omega)]
      rfl
    | cons d r =>
      simp only [List.length_cons] at hpl
      have hb0 : bt (S l) (p.length : Int) = (c.toNat : Int) := by rw [hp]; exact bt_mid p c (d :: r)
      have hb1 : bt (S l) ((p.length : Int) + 1) = (d.toNat : Int) := by
        have := bt_mid (p ++ [c]) d r
        rw [List.append_assoc] at this
        rw [hp]
        simpa using this
      have hc : (c.toNat : Int) = 58 ↔ c = 58 := byte_eq (z := 58) (by omega) (by omega)
      have hd : (d.toNat : Int) = 58 ↔ d = 58 := byte_eq (z := 58) (by omega) (by omega)
      have hst : ∀ m, gossamerref9_Parse.l0 (m + 2) (S l) (-1) (p.length : Int) 0 0 0 0 0 0 0 0 = if c = 58 ∧ d = 58 then gossamerref9_Parse.l0 m (S l) (p.length : Int) ((p.length : Int) + 1) 0 0 0 0 0 0 0 0 else gossamerref9_Parse.l0 m (S l) (-1) ((p.length : Int) + 1) 0 0 0 0 0 0 0 0 := by
        intro m
        show gossamerref9_Parse.l0 (m + 1 + 1) _ _ _ _ _ _ _ _ _ _ _ = _
        simp only [gossamerref9_Parse.l0, size_S]
        rw [hw, if_pos (by omega)]
        simp only [gossamerref9_Parse.j1, size_S]
        rw [if_pos (by decide), if_pos (by omega), if_pos (by omega), hb0]
        by_cases h1 : c = 58
        · rw [if_pos (hc.2 h1), hw, if_pos (by omega), if_pos (by omega), hb1]
          by_cases h2 : d = 58
          · rw [if_pos (hd.2 h2), if_pos ⟨h1, h2⟩]
          · rw [if_neg (fun e => h2 (hd.1 e)), if_neg (fun e => h2 e.2)]
        · rw [if_neg (fun e => h1 (hc.1 e)), if_neg (fun e => h1 e.1), hw]
      rw [firstDD] at h
      by_cases hcd : c = 58 ∧ d = 58
      · rw [if_pos hcd] at h
        simp only [] at h
        obtain ⟨K, hK⟩ := h ((p.length : Int) + 1)
        refine ⟨K + 3, fun n hn => ?_⟩
        obtain ⟨m, rfl⟩ : ∃ m, n = m + 3 := ⟨n - 3, by omega⟩
        show gossamerref9_Parse.l0 (m + 1 + 2) _ _ _ _ _ _ _ _ _ _ _ = _
        rw [hst (m + 1), if_pos hcd]
        have e := hK m (by omega)
        simp only [F, List.length_nil] at e
        rw [show (p.length : Int) + ((0 : Nat) : Int) = (p.length : Int) by omega] at e
        simp only [gossamerref9_Parse.l0]
        rw [decide_eq_false (show ¬ (p.length : Int) < 0 by omega)]
        split
        · exact e
        · exact e
      · rw [if_neg hcd] at h
        have hn := ih (p ++ [c]) (by rw [hp]; simp) (by
          cases hf : firstDD (d :: r) with
          | none => rw [hf] at h; exact h
          | some x =>
            rw [hf] at h
            simp only [Option.map_some, List.length_cons] at h
            intro i
            have := h i
            rw [show ((p ++ [c]).length : Int) + (x.1.length : Int) = (p.length : Int) + ((x.1.length + 1 : Nat) : Int) by rw [List.length_append, List.length_singleton]; omega]
            exact this)
        rw [List.length_append, List.length_singleton] at hn
        obtain ⟨K, hK⟩ := hn
        refine ⟨K + 2, fun n hn => ?_⟩
        obtain ⟨m, rfl⟩ : ∃ m, n = m + 2 := ⟨n - 2, by omega⟩
        show gossamerref9_Parse.l0 (m + 2) _ _ _ _ _ _ _ _ _ _ _ = _
        rw [hst m, if_neg hcd]
        exact hK m (by omega)
theorem first_is : ∀ (l a b : List UInt8), firstDD l = some (a, b) → l = a ++ 58 :: 58 :: b
  | [], a, b, h => by cases h
  | [_], a, b, h => by cases h
  | c :: d :: r, a, b, h => by
    rw [firstDD] at h
    split at h
    · rename_i hcd
      obtain ⟨rfl, rfl⟩ := hcd
      injection h with h
      injection h with h1 h2
      subst h1 h2
      rfl
    · obtain ⟨⟨a', b'⟩, hx, hy⟩ := Option.map_eq_some_iff.1 h
      injection hy with h1 h2
      subst h1 h2
      have := first_is (d :: r) a' b' hx
      rw [this]
      rfl
theorem row_len : ∀ (R : List (List UInt8)) (last : Bool) (L : List Int), rowL fourL R last = some L → L.length ≤ R.length + 1
  | [], _, L, h => by rw [rowL] at h; injection h with h; subst h; simp
  | t :: R, last, L, h => by
    by_cases hs : last = true ∧ R = [] ∧ (fourL t).isSome = true
    · obtain ⟨rfl, rfl, hf⟩ := hs
      obtain ⟨⟨a, b⟩, hf⟩ := Option.isSome_iff_exists.1 hf
      rw [rowL, if_pos rfl, hf] at h
      injection h with h
      subst h
      simp
    · rw [row_plain hs] at h
      obtain ⟨n, hn, h⟩ := Option.bind_eq_some_iff.1 h
      obtain ⟨M, hM, rfl⟩ := Option.map_eq_some_iff.1 h
      have := row_len R last M hM
      simp only [List.length_cons]
      omega
theorem rowT_len {l : List UInt8} {last : Bool} {L : List Int} (h : rowT (four := fourL) l last = some L) : L.length ≤ 9 := by
  unfold rowT at h
  split at h
  · injection h with h; subst h; simp
  · split at h
    · cases h
    · have := row_len _ _ _ h
      omega
theorem ref_six (l : List UInt8) (hl : l.length ≤ 200) : Ev (fun k => gossamerref9_Parse.f k (S l)) (ip6_Parse.nine (six (four := fourL) l)) := by
  refine scan (by omega) l [] rfl ?_
  unfold six
  cases hf : firstDD l with
  | none =>
    simp only []
    intro i
    obtain ⟨v, ⟨K, hK⟩, hv⟩ := ref_row l true (by omega)
    cases hr : rowT (four := fourL) l true with
    | none =>
      rw [hr] at hv
      refine ⟨K + 2, fun n hn => ?_⟩
      obtain ⟨m, rfl⟩ : ∃ m, n = m + 2 := ⟨n - 2, by omega⟩
      have e := hK (m + 1) (by omega)
      simp only [] at e
      simp only [F, gossamerref9_Parse.j1]
      rw [if_neg (by decide), if_pos (by omega), e, Option.bind_some, if_neg (by rw [show v.2 = false from hv]; decide)]
      simp only [gossamerref9_Parse.j2, if_true]
      rfl
    | some L =>
      rw [hr] at hv
      obtain rfl : v = (L, true) := hv
      simp only []
      have hw := rowT_word hr
      by_cases h8 : L.length = 8
      · rw [if_pos h8]
        obtain ⟨K2, hK2⟩ := copy1 L [] (by simpa using h8) hw
        refine ⟨max K K2 + 2, fun n hn => ?_⟩
        obtain ⟨m, rfl⟩ : ∃ m, n = m + 2 := ⟨n - 2, by omega⟩
        have e := hK (m + 1) (by omega)
        have e2 := hK2 m (by omega)
        simp only [] at e e2
        have h8' : ((L.length : Int) != 8) = false := by rw [h8]; rfl
        simp only [F, gossamerref9_Parse.j1]
        rw [if_neg (by decide), if_pos (by omega), e, Option.bind_some, if_pos rfl, h8']
        simp only [gossamerref9_Parse.j2]
        rw [if_neg (by decide)]
        exact e2
      · rw [if_neg h8]
        refine ⟨K + 2, fun n hn => ?_⟩
        obtain ⟨m, rfl⟩ : ∃ m, n = m + 2 := ⟨n - 2, by omega⟩
        have e := hK (m + 1) (by omega)
        simp only [] at e
        have h8' : ((L.length : Int) != 8) = true := by rw [bne_iff_ne]; omega
        simp only [F, gossamerref9_Parse.j1]
        rw [if_neg (by decide), if_pos (by omega), e, Option.bind_some, if_pos rfl, h8']
        simp only [gossamerref9_Parse.j2, if_true]
        rfl
  | some x =>
    obtain ⟨a, b⟩ := x
    simp only [List.length_nil]
    intro i
    have hla := first_is l a b hf
    have hlen : l.length = a.length + 2 + b.length := by rw [hla]; simp; omega
    obtain ⟨va, ⟨Ka, hKa⟩, hva⟩ := ref_row a false (by omega)
    obtain ⟨vb, ⟨Kb, hKb⟩, hvb⟩ := ref_row b true (by omega)
    have hx1 : (S l).extract 0 (a.length : Int).toNat = S a := by rw [extract_S, Int.toNat_natCast, List.drop_zero, hla, List.take_left]
    have hx2 : (S l).extract (((a.length : Int) + 2)).toNat (S l).size = S b := by
      rw [extract_S, size_S, List.take_length, show ((a.length : Int) + 2).toNat = a.length + 2 by omega, hla, ← List.drop_drop, List.drop_left]
      rfl
    have hst : ∀ m, max Ka Kb ≤ m → F (m + 1) (S l) (a.length : Int) i = gossamerref9_Parse.j4 m va.1 vb.1 (if va.2 = true ∧ vb.2 = true then decide (wrap64 ((va.1.length : Int) + (vb.1.length : Int)) > 7) else true) 0 0 0 0 0 0 0 0 := by
      intro m hm
      have e1 := hKa m (by omega)
      have e2 := hKb m (by omega)
      simp only [] at e1 e2
      simp only [F, gossamerref9_Parse.j1]
      rw [if_neg (by decide), if_neg (by omega), if_pos (by omega), if_pos (by rw [size_S]; omega), hx1, e1, Option.bind_some, wrap64_id (x := (a.length : Int) + 2) (by omega) (by omega), if_pos (by omega), if_pos (by rw [size_S]; omega), hx2, e2, Option.bind_some]
      generalize va.2 = x
      generalize vb.2 = y
      cases x <;> cases y <;> simp only [Bool.false_eq_true, if_false, if_true, and_false, false_and, and_true, and_self]
    have hz : (((0 : Nat) : Int) + (a.length : Int)) = (a.length : Int) := by omega
    rw [hz]
    have hbad : (if va.2 = true ∧ vb.2 = true then decide (wrap64 ((va.1.length : Int) + (vb.1.length : Int)) > 7) else true) = true → Ev (fun k => F k (S l) (a.length : Int) i) (ip6_Parse.nine Z) := by
      intro hb
      refine ⟨max Ka Kb + 2, fun n hn => ?_⟩
      obtain ⟨m, rfl⟩ : ∃ m, n = m + 2 := ⟨n - 2, by omega⟩
      show F (m + 1 + 1) _ _ _ = _
      rw [hst (m + 1) (by omega), hb]
      simp only [gossamerref9_Parse.j4, if_true]
      rfl
    cases hA : rowT (four := fourL) a false with
    | none =>
      rw [hA] at hva
      exact hbad (if_neg (fun e => by rw [show va.2 = false from hva] at e; cases e.1))
    | some A =>
      rw [hA] at hva
      obtain rfl : va = (A, true) := hva
      cases hB : rowT (four := fourL) b true with
      | none =>
        rw [hB] at hvb
        exact hbad (if_neg (fun e => by rw [show vb.2 = false from hvb] at e; cases e.2))
      | some B =>
        rw [hB] at hvb
        obtain rfl : vb = (B, true) := hvb
        simp only []
        by_cases h7 : A.length + B.length ≤ 7
        · rw [if_pos h7]
          have hC3 := copy3 B (by omega) B (A ++ List.replicate (8 - A.length - B.length) 0) [] rfl (by simp; omega) (rowT_word hB)
          rw [List.append_nil, pad_more _ _ (by omega)] at hC3
          obtain ⟨K2, hK2⟩ := copy2 A B (by omega) A [] rfl (rowT_word hA) hC3
          refine ⟨max (max Ka Kb) K2 + 2, fun n hn => ?_⟩
          obtain ⟨m, rfl⟩ : ∃ m, n = m + 2 := ⟨n - 2, by omega⟩
          have e2 := hK2 m (by omega)
          simp only [] at e2
          have hw7 : decide (wrap64 ((A.length : Int) + (B.length : Int)) > 7) = false := by
            rw [wrap64_id (by omega) (by omega), decide_eq_false (by omega)]
          show F (m + 1 + 1) _ _ _ = _
          rw [hst (m + 1) (by omega), if_pos ⟨rfl, rfl⟩]
          simp only []
          rw [hw7]
          simp only [gossamerref9_Parse.j4]
          rw [if_neg (by decide)]
          exact e2
        · rw [if_neg h7]
          apply hbad
          rw [if_pos ⟨rfl, rfl⟩]
          have la := rowT_len hA
          have lb := rowT_len hB
          show decide (wrap64 ((A.length : Int) + (B.length : Int)) > 7) = true
          rw [wrap64_id (by omega) (by omega), decide_eq_true (by omega)]
end Go.Proofs.YtcpfhnodbgojaaaDoor.Six
