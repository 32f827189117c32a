/- What the printed functions of ip4 and of its document's answer compute: plain. -/
import Derived.Test.YtcpfhnodbgojaaaDoorPFx
import Derived.Test.YtcpfhnodbgojaaaDoorPureKit
import Derived.Lib.SplitLaws
import Derived.Lib.IndexBytes
import Derived.Laws.BitsLemmas
set_option linter.unusedVariables false
set_option linter.unusedSimpArgs false
namespace Go.Proofs.YtcpfhnodbgojaaaDoor.Four
open Go.RowKit Go.Proofs.YtcpfhnodbgojaaaDoor.PF Go.Proofs.YtcpfhnodbgojaaaDoorW.PrintWords Go.Proofs.YtcpfhnodbgojaaaDoorW.PrintMore Go.Proofs.YtcpfhnodbgojaaaDoorK

/-! ### Parts -/
def splitC (c : UInt8) : List UInt8 → List (List UInt8)
  | [] => [[]]
  | x :: r => if x = c then [] :: splitC c r else match splitC c r with
    | [] => [[x]]
    | h :: t => (x :: h) :: t
theorem splitC_hit (c : UInt8) (r : List UInt8) : splitC c (c :: r) = [] :: splitC c r := by rw [splitC.eq_def]; simp
theorem splitC_miss {c x : UInt8} (r : List UInt8) (h : x ≠ c) : splitC c (x :: r) = match splitC c r with
    | [] => [[x]]
    | h :: t => (x :: h) :: t := by rw [splitC.eq_def]; simp [h]
theorem splitC_ne (c : UInt8) (l : List UInt8) : splitC c l ≠ [] := by
  induction l with
  | nil => simp [splitC]
  | cons x r ih =>
    unfold splitC
    split
    · simp
    · split <;> simp
theorem splitC_none {c : UInt8} {a : List UInt8} (h : c ∉ a) : splitC c a = [a] := by
  induction a with
  | nil => rfl
  | cons x r ih =>
    simp at h
    unfold splitC
    rw [if_neg (fun e => h.1 e.symm), ih h.2]
theorem splitC_split {c : UInt8} {a b : List UInt8} (h : c ∉ a) : splitC c (a ++ c :: b) = a :: splitC c b := by
  induction a with
  | nil => exact splitC_hit c b
  | cons x r ih =>
    simp at h
    show splitC c (x :: (r ++ c :: b)) = _
    rw [splitC_miss _ (fun e => h.1 e.symm), ih h.2]
theorem splitC_length (c : UInt8) (l : List UInt8) : (splitC c l).length ≤ l.length + 1 := by
  induction l with
  | nil => simp [splitC]
  | cons x r ih =>
    unfold splitC
    split
    · simp; omega
    · split
      · simp
      · rename_i h t e; rw [e] at ih; simp at ih ⊢; omega
theorem indexB_one (l : List UInt8) (c : UInt8) : Lib.indexB (S l) (S [c]) = Lib.indexByte l c := Lib.index_one l c
theorem split_eq (c : UInt8) : ∀ (n : Nat) (l : List UInt8), l.length ≤ n → Lib.splitB (S [c]) 0 (Lib.countB (S l) (S [c])) (S l) = (splitC c l).map S := by
  intro n
  induction n with
  | zero =>
    intro l hl
    have : l = [] := List.length_eq_zero_iff.1 (by omega)
    subst this
    rw [Lib.countB_miss _ _ (by rw [indexB_one]; rfl)]
    rfl
  | succ n ih =>
    intro l hl
    by_cases h : c ∈ l
    · obtain ⟨a, b, rfl, hn, hi⟩ := indexByte_split h
      have hix : Lib.indexB (S (a ++ c :: b)) (S [c]) = (a.length : Int) := by rw [indexB_one]; exact hi
      have he : (S (a ++ c :: b)).extract (a.length + (S [c]).size) (S (a ++ c :: b)).size = S b := by
        rw [size_S, size_S, extract_S, List.take_length]
        exact congrArg S (drop_past a c b)
      rw [Lib.countB_hit _ _ a.length (by rw [size_S]; simp) hix, Nat.add_comm 1, Lib.splitB_hit _ _ _ _ a.length hix, he, splitC_split hn, List.map_cons, ih b (by simp at hl; omega)]
      congr 1
      rw [extract_S]
      simp
    · rw [Lib.countB_miss _ _ (by rw [indexB_one]; exact indexByte_none.2 h), splitC_none h]
      rfl
theorem split_f (l : List UInt8) (c : UInt8) (hl : l.length < 4294967281) : strings_Split.f (S l) (S [c]) = some ((splitC c l).map S) := by
  unfold strings_Split.f
  rw [if_pos (by rw [size_S]; exact hl), if_pos (by rw [size_S]; simp), split_eq c _ l (Nat.le_refl _)]
theorem parts_ev (c : UInt8) (r : List UInt8) : ∀ (p q : List UInt8) (acc : List ByteArray), c ∉ q → (p ++ q ++ r).length ≤ 1000000 → acc.length + r.length ≤ 2000000 →
    Ev (fun k => gossamerref8_Parts.l0 k (S (p ++ q ++ r)) c.toNat acc (p.length : Int) ((p ++ q).length : Int)) (acc ++ (splitC c (q ++ r)).map S) := by
  induction r with
  | nil =>
    intro p q acc hq hl ha
    rw [List.append_nil, List.append_nil] at *
    have hpq : p.length + q.length ≤ 1000000 := by simpa using hl
    refine Ev.step (f := fun k => gossamerref8_Parts.l0 k (S (p ++ q)) c.toNat (acc ++ [S q]) ((p ++ q).length + 1 : Int) ((p ++ q).length + 1 : Int)) (fun k => ?_) (Ev.step (f := fun _ => some (acc ++ [S q])) (fun k => ?_) (by rw [splitC_none hq]; exact Ev.now _))
    · simp only [gossamerref8_Parts.l0, size_S]
      have e : (S (p ++ q)).extract ((p.length : Int)).toNat (((p ++ q).length : Int)).toNat = S q := by rw [extract_S, Int.toNat_natCast, Int.toNat_natCast]; have := mid_cut p q []; rw [List.append_nil] at this; rw [this]
      rw [if_pos (by omega), if_pos trivial, if_pos (by omega), if_pos (by simp; omega), if_pos (by simp at ha; omega), e, wrap64_id (by simp; omega) (by simp; omega)]
    · simp only [gossamerref8_Parts.l0, size_S]
      rw [if_neg (by omega)]
  | cons x r ih =>
    intro p q acc hq hl ha
    have hpq : p.length + q.length + r.length + 1 ≤ 1000000 := by simp at hl; omega
    have hlen : ((p ++ q ++ x :: r).length : Int) = (p.length : Int) + q.length + r.length + 1 := by simp; omega
    have hw : wrap64 (((p ++ q).length : Int) + 1) = ((p ++ q ++ [x]).length : Int) := next_mid _ _ (by simp; omega)
    by_cases hx : x = c
    · subst hx
      have := ih (p ++ q ++ [x]) [] (acc ++ [S q]) (by simp) (by simpa using hl) (by simp at ha ⊢; omega)
      refine Ev.step (f := fun k => gossamerref8_Parts.l0 k (S (p ++ q ++ x :: r)) x.toNat (acc ++ [S q]) ((p ++ q ++ [x]).length : Int) ((p ++ q ++ [x]).length : Int)) (fun k => ?_) ?_
      · simp only [gossamerref8_Parts.l0, size_S]
        have e : (S (p ++ q ++ x :: r)).extract ((p.length : Int)).toNat (((p ++ q).length : Int)).toNat = S q := by rw [extract_S, Int.toNat_natCast, Int.toNat_natCast, mid_cut]
        rw [if_pos (by rw [hlen]; simp; omega), if_neg (by rw [hlen]; simp; omega), if_pos (by omega), if_pos (by rw [hlen]; simp; omega), bt_mid (p ++ q) x r, if_pos rfl, if_pos (by omega), if_pos (by simp; omega), if_pos (by simp at ha; omega), e, hw]
      · rw [splitC_split hq, List.map_cons]
        have e2 : p ++ q ++ x :: r = p ++ q ++ [x] ++ [] ++ r := by simp
        have e3 : acc ++ S q :: List.map S (splitC x r) = acc ++ [S q] ++ List.map S (splitC x ([] ++ r)) := by simp
        rw [e2, e3]
        simpa using this
    · have := ih p (q ++ [x]) acc (by simp [hq]; exact fun h => hx h.symm) (by simpa using hl) (by simp at ha ⊢; omega)
      refine Ev.step (f := fun k => gossamerref8_Parts.l0 k (S (p ++ q ++ x :: r)) c.toNat acc (p.length : Int) ((p ++ q ++ [x]).length : Int)) (fun k => ?_) ?_
      · simp only [gossamerref8_Parts.l0, size_S]
        rw [if_pos (by rw [hlen]; simp; omega), if_neg (by rw [hlen]; simp; omega), if_pos (by omega), if_pos (by rw [hlen]; simp; omega), bt_mid (p ++ q) x r, if_neg (fun h => hx (UInt8.toNat_inj.1 (by omega))), hw]
      · simpa using this
theorem parts_f (c : UInt8) (l : List UInt8) (hl : l.length ≤ 1000000) : Ev (fun k => gossamerref8_Parts.f k (S l) c.toNat) ((splitC c l).map S) := by
  have := parts_ev c l [] [] [] (by simp) (by simpa using hl) (by simp; omega)
  exact this
/-- Without a last one that is empty. -/
def dropLast (l : List (List UInt8)) : List (List UInt8) := if 1 < l.length ∧ l.getLast? = some [] then l.take (l.length - 1) else l
def dotsL (l : List UInt8) : List (List UInt8) := dropLast (splitC 46 l)
theorem rdOf_map (l : List (List UInt8)) (i : Nat) (h : i < l.length) : rdOf ByteArray.empty (l.map S) (i : Int) = S l[i] := by
  rw [rdOf_nat, List.getD_eq_getElem?_getD]
  simp [h]
theorem drop_text (L : List (List UInt8)) (hne : L ≠ []) (hl : L.length ≤ 1000000) :
    (if ((L.map S).length : Int) > 1 then (if 0 ≤ (wrap64 (((L.map S).length : Int) - 1)) then (if (wrap64 (((L.map S).length : Int) - 1)) < ((L.map S).length : Int) then (if (rdOf ByteArray.empty (L.map S) (wrap64 (((L.map S).length : Int) - 1))).toList = ([] : List UInt8) then (if (wrap64 (((L.map S).length : Int) - 1)) ≤ ((L.map S).length : Int) then (some ((L.map S).take ((wrap64 (((L.map S).length : Int) - 1)) : Int).toNat)) else (none)) else (some (L.map S))) else (none)) else (none)) else (some (L.map S))) = some ((dropLast L).map S) := by
  have hpos : 0 < L.length := List.length_pos_iff.2 hne
  have e0 : ((L.map S).length : Int) = L.length := by simp
  rw [e0]
  unfold dropLast
  by_cases h1 : (L.length : Int) > 1
  · have e1 : wrap64 ((L.length : Int) - 1) = ((L.length - 1 : Nat) : Int) := by rw [wrap64_id (by omega) (by omega)]; omega
    rw [if_pos h1, e1, if_pos (by omega), if_pos (by omega), rdOf_map L _ (by omega), toList_S]
    have e2 : L.getLast? = some L[L.length - 1] := by rw [List.getLast?_eq_getElem?]; exact List.getElem?_eq_getElem _
    by_cases h2 : L[L.length - 1] = []
    · rw [if_pos h2, if_pos (by omega), if_pos ⟨by omega, by rw [e2, h2]⟩]
      simp
    · rw [if_neg h2, if_neg (by rw [e2]; simp [h2])]
  · rw [if_neg h1, if_neg (by omega)]
theorem go_parts (l : List UInt8) (hl : l.length ≤ 100000) : ip4_parts.f (S l) = some ((dotsL l).map S) := by
  unfold ip4_parts.f
  have hs := splitC_length 46 l
  rw [show (⟨#[46]⟩ : ByteArray) = S [46] from rfl, split_f l 46 (by omega)]
  simp only [Option.bind_some]
  have := drop_text (splitC 46 l) (splitC_ne _ _) (by omega)
  have hpos : 0 < (splitC 46 l).length := List.length_pos_iff.2 (splitC_ne _ _)
  by_cases h1 : (((splitC 46 l).map S).length : Int) > 1
  · rw [if_pos h1] at this
    rw [if_pos (by rw [wrap64_id (by omega) (by simp; omega)]; omega)]
    exact this
  · rw [if_neg h1] at this
    rw [if_neg (by rw [wrap64_id (by omega) (by simp; omega)]; omega)]
    exact this
/-! ### Digits -/
def dvN (n : Nat) : Int := if 48 ≤ n ∧ n ≤ 57 then n - 48 else if 97 ≤ n ∧ n ≤ 102 then n - 87 else if 65 ≤ n ∧ n ≤ 70 then n - 55 else 99
def dv (c : UInt8) : Int := dvN c.toNat
theorem dv_nonneg (c : UInt8) : 0 ≤ dv c := by unfold dv dvN; repeat' split <;> omega
def dtest (n : Nat) (b : Int) : Bool := match ip4_digit.f 3 (n : Int) b with
  | some v => (v.2 == decide (dvN n < b)) && (!v.2 || v.1 == dvN n)
  | none => false
theorem go_digit_all : ∀ n : Fin 256, ∀ b : Fin 3, dtest n.val ([8, 10, 16][b.val]) = true := by decide +kernel
def Base3 (b : Int) : Prop := b = 8 ∨ b = 10 ∨ b = 16
theorem go_digit {b : Int} (hb : Base3 b) (c : UInt8) : ∃ v : Int × Bool, Ev (fun k => ip4_digit.f k c.toNat b) v ∧ (v.2 = true ↔ dv c < b) ∧ (v.2 = true → v.1 = dv c) := by
  have hc : c.toNat < 256 := c.toNat_lt
  have key : ∀ j : Fin 3, [8, 10, 16][j.val] = b → ∃ v : Int × Bool, Ev (fun k => ip4_digit.f k c.toNat b) v ∧ (v.2 = true ↔ dv c < b) ∧ (v.2 = true → v.1 = dv c) := by
    intro j hj
    have h := go_digit_all ⟨c.toNat, hc⟩ j
    rw [hj] at h
    unfold dtest at h
    split at h
    · rename_i v hv
      simp only [Bool.and_eq_true, beq_iff_eq, Bool.or_eq_true, Bool.not_eq_true'] at h
      refine ⟨v, Ev.of (g := fun k => ip4_digit.f k c.toNat b) (fun k => ip4_digit.mono _ _ k) hv, ?_, fun hv2 => ?_⟩
      · unfold dv
        rw [h.1]
        simp
      · rcases h.2 with h2 | h2
        · rw [hv2] at h2; cases h2
        · exact h2
    · cases h
  rcases hb with rfl | rfl | rfl
  · exact key 0 rfl
  · exact key 1 rfl
  · exact key 2 rfl
/-! ### Numbers -/
def far : Int := 4294967296
def numV (b : Int) : List UInt8 → Int → Option Int
  | [], n => some n
  | c :: l, n => if dv c < b then numV b l (mn (n * b + dv c) 4294967296) else none
def pair (o : Option Int) : Int × Bool := match o with
  | some v => (v, true)
  | none => (0, false)
theorem u64_id {x : Int} (h0 : 0 ≤ x) (h1 : x < 18446744073709551616) : IntKind.u64.wrap x = x := by
  have : IntKind.u64.wrap x = x % 18446744073709551616 := rfl
  omega
theorem mn_bd {x : Int} (h : 0 ≤ x) : 0 ≤ mn x 4294967296 ∧ mn x 4294967296 ≤ 4294967296 := by unfold mn; split <;> omega
theorem step_bd {b n : Int} (hb : Base3 b) (h0 : 0 ≤ n) (h1 : n ≤ 4294967296) : 0 ≤ n * b ∧ n * b ≤ 68719476736 := by
  rcases hb with rfl | rfl | rfl <;> omega
theorem go_num_ev {b : Int} (hb : Base3 b) (r : List UInt8) : ∀ (p : List UInt8) (n : Int), 0 ≤ n → n ≤ 4294967296 → (p ++ r).length ≤ 100000 →
    Ev (fun k => ip4_number.l0 k (S (p ++ r)) b n ((p ++ r).length : Int) (p.length : Int)) (pair (numV b r n)) := by
  induction r with
  | nil =>
    intro p n h0 h1 hl
    refine Ev.step (f := fun _ => some (n, true)) (fun k => ?_) (Ev.now _)
    simp only [ip4_number.l0]
    rw [if_neg (not_lt_end p)]
  | cons c r ih =>
    intro p n h0 h1 hl
    have hl2 : p.length < 100000 := by simp at hl; omega
    obtain ⟨v, hv, hv1, hv2⟩ := go_digit hb c
    have hn := dv_nonneg c
    have hbd := step_bd hb h0 h1
    have hb16 : b ≤ 16 := by rcases hb with rfl | rfl | rfl <;> omega
    refine Ev.step (f := fun k => (ip4_digit.f k c.toNat b).bind fun x => if x.2 = true then ip4_number.l0 k (S (p ++ [c] ++ r)) b (mn (IntKind.u64.wrap (IntKind.u64.wrap (n * b) + x.1)) 4294967296) ((p ++ [c] ++ r).length : Int) ((p ++ [c]).length : Int) else some (0, false)) (fun k => ?_) ?_
    · simp only [ip4_number.l0, size_S]
      rw [if_pos (lt_mid p c r), if_pos (by omega), if_pos (lt_mid p c r), bt_mid, next_mid p c (by omega), mid_shift]
    · refine Ev.bind hv ?_
      unfold numV
      by_cases hd : dv c < b
      · have h2 := hv1.2 hd
        simp only [h2, if_true, hd]
        rw [hv2 h2, u64_id (x := n * b) (by omega) (by omega), u64_id (by omega) (by omega)]
        have hm := mn_bd (x := n * b + dv c) (by omega)
        exact ih (p ++ [c]) _ hm.1 hm.2 (by simpa using hl)
      · have h2 : v.2 = false := by
          cases h : v.2 with
          | true => exact absurd (hv1.1 h) hd
          | false => rfl
        simp only [h2, Bool.false_eq_true, if_false, hd]
        exact Ev.now _
/-- What stands behind 0x. -/
def isHex : List UInt8 → Option (List UInt8)
  | x :: y :: r => if x = 48 ∧ (y = 120 ∨ y = 88) then some r else none
  | _ => none
theorem isHex_eq (x y : UInt8) (r : List UInt8) : isHex (x :: y :: r) = if x = 48 ∧ (y = 120 ∨ y = 88) then some r else none := rfl
/-- A part's number. -/
def numL (l : List UInt8) : Int × Bool := match isHex l with
  | some r => pair (numV 16 r 0)
  | none => if l = [] then (0, false) else pair (numV (if 1 < l.length ∧ l.head? = some 48 then 8 else 10) l 0)
theorem bt_0 (x : UInt8) (r : List UInt8) : bt (S (x :: r)) 0 = x.toNat := bt_mid [] x r
theorem bt_1 (x y : UInt8) (r : List UInt8) : bt (S (x :: y :: r)) 1 = y.toNat := bt_mid [x] y r
theorem go_hexed (l : List UInt8) : ip4_hexed.f (S l) = some (match isHex l with | some r => (S r, true) | none => (S [], false)) := by
  unfold ip4_hexed.f
  simp only [size_S]
  match l with
  | [] => rfl
  | [x] => rfl
  | x :: y :: r =>
    have hl : ((x :: y :: r).length : Int) = r.length + 2 := by simp; omega
    have he : (S (x :: y :: r)).extract 2 (x :: y :: r).length = S r := by rw [extract_S]; simp
    rw [if_neg (by omega), if_pos (by omega), bt_0, bt_1, he]
    rw [isHex_eq]
    by_cases hx : x = 48
    · subst hx
      rw [if_pos (show ((UInt8.toNat 48 : Nat) : Int) = 48 from rfl), if_pos (by omega)]
      by_cases hy : y = 120
      · subst hy
        rw [if_pos (show ((UInt8.toNat 120 : Nat) : Int) = 120 from rfl), if_pos (by omega), if_pos ⟨rfl, .inl rfl⟩]
      · rw [if_neg (fun h => hy ((byte_eq (by omega) (by omega)).1 h))]
        by_cases hy2 : y = 88
        · subst hy2
          rw [if_pos (show ((UInt8.toNat 88 : Nat) : Int) = 88 from rfl), if_pos (by omega), if_pos ⟨rfl, .inr rfl⟩]
        · rw [if_neg (fun h => hy2 ((byte_eq (by omega) (by omega)).1 h)), if_neg (by rintro ⟨_, h | h⟩; exact hy h; exact hy2 h)]
          rfl
    · rw [if_neg (fun h => hx ((byte_eq (by omega) (by omega)).1 h)), if_neg (fun h => hx h.1)]
      rfl
theorem isHex_len {l r : List UInt8} (h : isHex l = some r) : l.length = r.length + 2 := by
  match l with
  | [] => simp [isHex] at h
  | [x] => simp [isHex] at h
  | x :: y :: t =>
    rw [isHex_eq] at h
    split at h
    · obtain rfl := Option.some.inj h; rfl
    · cases h
theorem go_number (l : List UInt8) (hl : l.length ≤ 100000) : Ev (fun k => ip4_number.f k (S l)) (numL l) := by
  have start : ∀ (b : Int) (r : List UInt8), Base3 b → r.length ≤ 100000 → Ev (fun k => ip4_number.j0 k (S r) b) (pair (numV b r 0)) := by
    intro b r hb hr
    refine Ev.step (f := fun k => ip4_number.l0 k (S r) b 0 (r.length : Int) 0) (fun k => ?_) (go_num_ev hb r [] 0 (by omega) (by omega) (by simpa using hr))
    simp only [ip4_number.j0, size_S]
  unfold ip4_number.f numL
  rw [go_hexed]
  simp only [Option.bind_some]
  cases hx : isHex l with
  | some r =>
    simp only [if_true]
    exact start 16 r (.inr (.inr rfl)) (by have := isHex_len hx; omega)
  | none =>
    simp only [Bool.false_eq_true, if_false, toList_S, size_S]
    by_cases h0 : l = []
    · simp only [h0, if_true]; exact Ev.now _
    · simp only [h0, if_false]
      match l, h0 with
      | [x], _ =>
        simp only [List.length_singleton, show ¬ ((1 : Nat) : Int) > 1 by omega, if_false, show ¬ (1 < 1) by omega, false_and]
        exact start 10 [x] (.inr (.inl rfl)) (by simp)
      | x :: y :: r, _ =>
        have hl1 : ((x :: y :: r).length : Int) > 1 := by simp; omega
        have hl2 : 1 < (x :: y :: r).length := by simp
        have hl0 : (0 : Int) < ((x :: y :: r).length : Int) := by omega
        rw [bt_0]
        simp only [hl1, hl0, if_true, hl2, true_and, List.head?_cons]
        by_cases hz : x = 48
        · subst hz
          simp only [show ((UInt8.toNat 48 : Nat) : Int) = 48 from rfl, if_true]
          exact start 8 _ (.inl rfl) hl
        · have hz2 : ¬ (x.toNat : Int) = 48 := fun h => hz ((byte_eq (by omega) (by omega)).1 h)
          simp only [hz2, if_false, Option.some.injEq, hz]
          exact start 10 _ (.inr (.inl rfl)) hl
theorem numV_zero (t : List UInt8) : numV 8 (48 :: t) 0 = numV 8 t 0 := by
  rw [numV, if_pos (by decide)]
  rfl
/-! ### Addresses -/
/-- What the parts behind the first i tell, the sum of those ahead being known. -/
def goP : Nat → List (List UInt8) → Int → Int × Bool
  | _, [], sum => (sum, true)
  | i, a :: r, sum => if (numL a).2 = true ∧ (numL a).1 < (if r = [] then 2 ^ (8 * (4 - i)) else 256) then goP (i + 1) r (sum * (if r = [] then 2 ^ (8 * (4 - i)) else 256) + (numL a).1) else (0, false)
theorem goP_nil (i : Nat) (s : Int) : goP i [] s = (s, true) := by unfold goP; rfl
theorem goP_last (i : Nat) (a : List UInt8) (s : Int) : goP i [a] s = if (numL a).2 = true ∧ (numL a).1 < 2 ^ (8 * (4 - i)) then (s * 2 ^ (8 * (4 - i)) + (numL a).1, true) else (0, false) := by
  rw [goP]
  simp only [if_true]
  rw [goP_nil]
theorem goP_more (i : Nat) (a : List UInt8) {r : List (List UInt8)} (h : r ≠ []) (s : Int) : goP i (a :: r) s = if (numL a).2 = true ∧ (numL a).1 < 256 then goP (i + 1) r (s * 256 + (numL a).1) else (0, false) := by
  rw [goP]
  simp only [h, if_false]
theorem numV_bd {b : Int} (hb : Base3 b) (l : List UInt8) : ∀ n v : Int, 0 ≤ n → n ≤ 4294967296 → numV b l n = some v → 0 ≤ v ∧ v ≤ 4294967296 := by
  induction l with
  | nil => intro n v h0 h1 h; obtain rfl := Option.some.inj h; exact ⟨h0, h1⟩
  | cons c l ih =>
    intro n v h0 h1 h
    have hn := dv_nonneg c
    have hbd := step_bd hb h0 h1
    rw [numV] at h
    split at h
    · have hm := mn_bd (x := n * b + dv c) (by omega)
      exact ih _ v hm.1 hm.2 h
    · cases h
theorem numL_bd (l : List UInt8) : 0 ≤ (numL l).1 ∧ (numL l).1 ≤ 4294967296 := by
  have key : ∀ (b : Int) (r : List UInt8), Base3 b → 0 ≤ (pair (numV b r 0)).1 ∧ (pair (numV b r 0)).1 ≤ 4294967296 := by
    intro b r hb
    cases h : numV b r 0 with
    | none => simp [pair]
    | some v => exact numV_bd hb r 0 v (by omega) (by omega) h
  unfold numL
  split
  · exact key 16 _ (.inr (.inr rfl))
  · split
    · simp
    · split
      · exact key 8 _ (.inl rfl)
      · exact key 10 _ (.inr (.inl rfl))
theorem u64_pow (x : Int) (n : Nat) (hn : n = 8 ∨ n = 16 ∨ n = 24 ∨ n = 32) (h0 : 0 ≤ x) (h1 : x * 2 ^ n < 9223372036854775808) : shl .u64 x (n : Int) = x * 2 ^ n := by
  unfold shl
  have e : min ((n : Int)).toNat (IntKind.u64.bits) = n := by rcases hn with rfl | rfl | rfl | rfl <;> rfl
  rw [e]
  have : 0 ≤ x * 2 ^ n := Int.mul_nonneg h0 (by rcases hn with rfl | rfl | rfl | rfl <;> decide)
  exact u64_id this (by omega)
theorem wraps_u64 (n : Int) (h0 : 0 ≤ n) (h1 : n < 2 ^ 62) : IntKind.u64.wrap n = n := u64_id h0 (by omega)
theorem or_join (x y : Int) (n : Nat) (hn : n ≤ 32) (hx0 : 0 ≤ x) (hx1 : x * 2 ^ n < 4611686018427387904) (hy0 : 0 ≤ y) (hy1 : y < 2 ^ n) : Go.bits .or .u64 (x * 2 ^ n) y = x * 2 ^ n + y := by
  have hp : (0 : Int) < 2 ^ n := Int.pow_pos (by decide)
  have hle : (2 : Int) ^ n ≤ 2 ^ 32 := by
    have : (2 : Nat) ^ n ≤ 2 ^ 32 := Nat.pow_le_pow_right (by decide) hn
    exact_mod_cast this
  exact bits_join .u64 62 (by decide) wraps_u64 n (x * 2 ^ n) y (Int.mul_nonneg hx0 (Int.le_of_lt hp)) (Int.mul_emod_left x _) (by have : (2 : Int) ^ 62 = 4611686018427387904 := rfl; omega) hy0 hy1 (by have : (2 : Int) ^ 62 = 4611686018427387904 := rfl; have : (2 : Int) ^ 32 = 4294967296 := rfl; omega)
/-- Sums that may stand ahead of part i. -/
def Sum (i : Nat) (s : Int) : Prop := 0 ≤ s ∧ s < 256 ^ i
theorem map_at {L p r : List (List UInt8)} {a : List UInt8} (h : L = p ++ a :: r) : rdOf ByteArray.empty (L.map S) (p.length : Int) = S a := by
  subst h
  rw [rdOf_map _ _ (by simp)]
  simp
theorem go_parse_ev (L : List (List UInt8)) (hL : L.length ≤ 4) (hs : ∀ a ∈ L, a.length ≤ 100000) (r : List (List UInt8)) : ∀ (p : List (List UInt8)) (s : Int), L = p ++ r → 0 ≤ s → (r ≠ [] → s < 256 ^ p.length) → (r = [] → s < 4294967296) →
    Ev (fun k => ip4_Parse.l0 k (L.map S) s (L.map S) (L.length : Int) (p.length : Int)) (goP p.length r s) := by
  induction r with
  | nil =>
    intro p s hp h0 _ hlt
    rw [List.append_nil] at hp
    subst hp
    have := hlt rfl
    refine Ev.step (f := fun _ => some (s, true)) (fun k => ?_) (by rw [goP_nil]; exact Ev.now _)
    simp only [ip4_Parse.l0]
    rw [if_neg (by omega), Int.emod_eq_of_lt h0 this]
  | cons a r ih =>
    intro p s hp h0' hlt' _
    have hsum : Sum p.length s := ⟨h0', hlt' (by simp)⟩
    have hlen : L.length = p.length + r.length + 1 := by rw [hp]; simp; omega
    have hnb := numL_bd a
    have hpa : L = (p ++ [a]) ++ r := by rw [hp]; simp
    have haL : a ∈ L := by rw [hp]; simp
    have hnext : wrap64 ((p.length : Int) + 1) = ((p ++ [a]).length : Int) := next_mid p a (by omega)
    have hlast : wrap64 ((((L.map S).length : Nat) : Int) - 1) = (L.length : Int) - 1 := by simp only [List.length_map]; rw [wrap64_id (by omega) (by omega)]
    have hin : ((p.length : Nat) : Int) < ((L.map S).length : Int) := by simp; omega
    by_cases hr : r = []
    · subst hr
      have hpl : p.length + 1 = L.length := by simp at hlen; omega
      have hp3 : p.length ≤ 3 := by omega
      rw [goP_last]
      have hsh : wrap64 (8 * wrap64 (4 - (p.length : Int))) = ((8 * (4 - p.length) : Nat) : Int) := by rw [wrap64_id (x := 4 - (p.length : Int)) (by omega) (by omega), wrap64_id (by omega) (by omega)]; omega
      have h8 : 8 * (4 - p.length) = 8 ∨ 8 * (4 - p.length) = 16 ∨ 8 * (4 - p.length) = 24 ∨ 8 * (4 - p.length) = 32 := by omega
      have hone : shl .u64 1 ((8 * (4 - p.length) : Nat) : Int) = 2 ^ (8 * (4 - p.length)) := by rw [u64_pow 1 _ h8 (by omega) (by rcases h8 with h | h | h | h <;> rw [h] <;> decide)]; simp
      have hs2 : s * 2 ^ (8 * (4 - p.length)) + 2 ^ (8 * (4 - p.length)) ≤ 4294967296 := by
        obtain ⟨h1, h2⟩ := hsum
        have : p.length = 0 ∨ p.length = 1 ∨ p.length = 2 ∨ p.length = 3 := by omega
        rcases this with h | h | h | h <;> rw [h] at h2 ⊢ <;> simp at h2 ⊢ <;> omega
      have hpos : (0 : Int) < 2 ^ (8 * (4 - p.length)) := Int.pow_pos (by decide)
      refine Ev.step (f := fun k => (ip4_number.f k (S a)).bind fun x => if x.2 = true then (if x.1 ≥ 2 ^ (8 * (4 - p.length)) then some (0, false) else ip4_Parse.l0 k (L.map S) (Go.bits .or .u64 (s * 2 ^ (8 * (4 - p.length))) x.1) (L.map S) (L.length : Int) ((p ++ [a]).length : Int)) else some (0, false)) (fun k => ?_) ?_
      · simp only [ip4_Parse.l0]
        rw [if_pos (by omega), if_pos (by omega), if_pos hin, map_at hp, hnext, hlast, hsh, hone, u64_pow s _ h8 hsum.1 (by omega)]
        simp only [show (p.length : Int) = (L.length : Int) - 1 by omega, if_true, show (0 : Int) ≤ ((8 * (4 - p.length) : Nat) : Int) by omega]
      · refine Ev.bind (go_number a (hs a haL)) ?_
        by_cases hok : (numL a).2 = true
        · by_cases hv : (numL a).1 < 2 ^ (8 * (4 - p.length))
          · rw [if_pos ⟨hok, hv⟩]
            simp only [hok, if_true, show ¬ (numL a).1 ≥ 2 ^ (8 * (4 - p.length)) by omega, if_false]
            rw [or_join s _ _ (by omega) hsum.1 (by omega) hnb.1 hv]
            have := ih (p ++ [a]) (s * 2 ^ (8 * (4 - p.length)) + (numL a).1) hpa (by have := Int.mul_nonneg hsum.1 (Int.le_of_lt hpos); omega) (fun h => absurd rfl h) (fun _ => by omega)
            rw [goP_nil] at this
            exact this
          · rw [if_neg (fun h => hv h.2)]
            simp only [hok, if_true, show (numL a).1 ≥ 2 ^ (8 * (4 - p.length)) by omega]
            exact Ev.now _
        · rw [if_neg (fun h => hok h.1)]
          simp only [hok, Bool.false_eq_true, if_false]
          exact Ev.now _
    · rw [goP_more _ _ hr]
      have hr0 : 0 < r.length := List.length_pos_iff.2 hr
      have hp2 : p.length ≤ 2 := by omega
      have hs2 : s * 256 < 16777216 := by
        obtain ⟨h1, h2⟩ := hsum
        have : p.length = 0 ∨ p.length = 1 ∨ p.length = 2 := by omega
        rcases this with h | h | h <;> rw [h] at h2 <;> simp at h2 <;> omega
      have hs0 := hsum.1
      refine Ev.step (f := fun k => (ip4_number.f k (S a)).bind fun x => if x.2 = true then (if x.1 ≥ 256 then some (0, false) else ip4_Parse.l0 k (L.map S) (Go.bits .or .u64 (IntKind.u64.wrap (s * 256)) x.1) (L.map S) (L.length : Int) ((p ++ [a]).length : Int)) else some (0, false)) (fun k => ?_) ?_
      · simp only [ip4_Parse.l0]
        rw [if_pos (by omega), if_pos (by omega), if_pos hin, map_at hp, hnext, hlast]
        simp only [show ¬ (p.length : Int) = (L.length : Int) - 1 by omega, if_false]
      · refine Ev.bind (go_number a (hs a haL)) ?_
        by_cases hok : (numL a).2 = true
        · by_cases hv : (numL a).1 < 256
          · rw [if_pos ⟨hok, hv⟩]
            simp only [hok, if_true, show ¬ (numL a).1 ≥ 256 by omega, if_false]
            rw [u64_id (by omega) (by omega)]
            have e := or_join s (numL a).1 8 (by omega) hsum.1 (by omega) hnb.1 (by omega)
            rw [show (2 : Int) ^ 8 = 256 from rfl] at e
            rw [e]
            have := ih (p ++ [a]) (s * 256 + (numL a).1) hpa (by omega) (fun _ => by
              obtain ⟨h1, h2⟩ := hsum
              have : p.length = 0 ∨ p.length = 1 ∨ p.length = 2 := by omega
              simp only [List.length_append, List.length_singleton]
              rcases this with h | h | h <;> rw [h] at h2 ⊢ <;> simp at h2 ⊢ <;> omega) (fun h => absurd h hr)
            simp only [List.length_append, List.length_singleton] at this ⊢
            exact this
          · rw [if_neg (fun h => hv h.2)]
            simp only [hok, if_true, show (numL a).1 ≥ 256 by omega]
            exact Ev.now _
        · rw [if_neg (fun h => hok h.1)]
          simp only [hok, Bool.false_eq_true, if_false]
          exact Ev.now _
theorem goP_bd (r : List (List UInt8)) : ∀ (i : Nat) (s : Int), i + r.length ≤ 4 → 0 ≤ s → (r ≠ [] → s < 256 ^ i) → (r = [] → s < 4294967296) → 0 ≤ (goP i r s).1 ∧ (goP i r s).1 < 4294967296 := by
  induction r with
  | nil => intro i s _ h0 _ h1; rw [goP_nil]; exact ⟨h0, h1 rfl⟩
  | cons a r ih =>
    intro i s hi h0 h1 _
    have hnb := numL_bd a
    have h2 := h1 (by simp)
    simp at hi
    by_cases hr : r = []
    · subst hr
      rw [goP_last]
      split
      · rename_i hh
        have : i = 0 ∨ i = 1 ∨ i = 2 ∨ i = 3 := by simp at hi; omega
        rcases this with rfl | rfl | rfl | rfl <;> simp at h2 hh ⊢ <;> omega
      · simp
    · rw [goP_more _ _ hr]
      have hr0 : 0 < r.length := List.length_pos_iff.2 hr
      split
      · rename_i hh
        refine ih (i + 1) _ (by omega) (by omega) (fun _ => ?_) (fun h => absurd h hr)
        have : i = 0 ∨ i = 1 ∨ i = 2 := by omega
        rcases this with rfl | rfl | rfl <;> simp at h2 ⊢ <;> omega
      · simp
/-- What a text is as an address. -/
def parseL (l : List UInt8) : Int × Bool := if (dotsL l).length > 4 then (0, false) else goP 0 (dotsL l) 0
theorem mem_splitC {c : UInt8} {l : List UInt8} : ∀ a ∈ splitC c l, a.length ≤ l.length := by
  induction l with
  | nil => intro a h; simp [splitC] at h; subst h; simp
  | cons x r ih =>
    intro a h
    by_cases hx : x = c
    · subst hx
      rw [splitC_hit] at h
      rcases List.mem_cons.1 h with rfl | h
      · simp
      · have := ih a h; simp; omega
    · rw [splitC_miss _ hx] at h
      cases hs : splitC c r with
      | nil => exact absurd hs (splitC_ne _ _)
      | cons y t =>
        rw [hs] at h ih
        rcases List.mem_cons.1 h with rfl | h
        · have := ih y (by simp); simp; omega
        · have := ih a (by simp [h]); simp; omega
theorem mem_dots {l : List UInt8} : ∀ a ∈ dotsL l, a.length ≤ l.length := by
  intro a h
  unfold dotsL dropLast at h
  split at h
  · exact mem_splitC a (List.mem_of_mem_take h)
  · exact mem_splitC a h
theorem go_parse (l : List UInt8) (hl : l.length ≤ 100000) : Ev (fun k => ip4_Parse.f k (S l)) (parseL l) := by
  unfold ip4_Parse.f parseL
  rw [go_parts l hl]
  simp only [Option.bind_some, List.length_map]
  by_cases h4 : (dotsL l).length > 4
  · simp only [show ((dotsL l).length : Int) > 4 by omega, if_true, h4]; exact Ev.now _
  · simp only [show ¬ ((dotsL l).length : Int) > 4 by omega, if_false, h4]
    exact go_parse_ev (dotsL l) (by omega) (fun a h => by have := mem_dots a h; omega) (dotsL l) [] 0 rfl (by omega) (fun _ => by simp) (fun _ => by omega)
end Go.Proofs.YtcpfhnodbgojaaaDoor.Four
