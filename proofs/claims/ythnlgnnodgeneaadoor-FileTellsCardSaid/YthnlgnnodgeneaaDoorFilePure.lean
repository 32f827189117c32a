/- What the printed functions of file and of its document's answer compute: plain. -/
import Derived.Test.YthnlgnnodgeneaaDoorPFx
import Derived.Test.YthnlgnnodgeneaaDoorPureKit
import Derived.Lib.SplitLaws
import Derived.Lib.IndexBytes
import Derived.Laws.BitsLemmas
set_option linter.unusedVariables false
set_option linter.unusedSimpArgs false
namespace Go.Proofs.YthnlgnnodgeneaaDoor.File
open Go.RowKit Go.Proofs.YthnlgnnodgeneaaDoor.PF Go.Proofs.YthnlgnnodgeneaaDoorW.PrintWords Go.Proofs.YthnlgnnodgeneaaDoorW.PrintMore Go.Proofs.YthnlgnnodgeneaaDoorK

/-! ### Parts -/
def splitC (c : UInt8) : List UInt8 → List (List UInt8)
  | [] => [[]]
  | x :: r => if x = c then [] :: splitC c r else match splitC c r with
    | [] => [[x]]
    | h :: t => (x :: h) :: t
theorem splitC_hit (c : UInt8) (r : List UInt8) : splitC c (c :: r) = [] :: splitC c r := by rw [splitC.eq_def]; simp
theorem splitC_miss {c x : UInt8} (r : List UInt8) (h : x ≠ c) : splitC c (x :: r) = match splitC c r with
    | [] => [[x]]
    | h :: t => (x :: h) :: t := by rw [splitC.eq_def]; simp [h]
theorem splitC_ne (c : UInt8) (l : List UInt8) : splitC c l ≠ [] := by
  induction l with
  | nil => simp [splitC]
  | cons x r ih =>
    unfold splitC
    split
    · simp
    · split <;> simp
theorem splitC_none {c : UInt8} {a : List UInt8} (h : c ∉ a) : splitC c a = [a] := by
  induction a with
  | nil => rfl
  | cons x r ih =>
    simp at h
    unfold splitC
    rw [if_neg (fun e => h.1 e.symm), ih h.2]
theorem splitC_split {c : UInt8} {a b : List UInt8} (h : c ∉ a) : splitC c (a ++ c :: b) = a :: splitC c b := by
  induction a with
  | nil => exact splitC_hit c b
  | cons x r ih =>
    simp at h
    show splitC c (x :: (r ++ c :: b)) = _
    rw [splitC_miss _ (fun e => h.1 e.symm), ih h.2]
theorem splitC_length (c : UInt8) (l : List UInt8) : (splitC c l).length ≤ l.length + 1 := by
  induction l with
  | nil => simp [splitC]
  | cons x r ih =>
    unfold splitC
    split
    · simp; omega
    · split
      · simp
      · rename_i h t e; rw [e] at ih; simp at ih ⊢; omega
theorem indexB_one (l : List UInt8) (c : UInt8) : Lib.indexB (S l) (S [c]) = Lib.indexByte l c := Lib.index_one l c
theorem split_eq (c : UInt8) : ∀ (n : Nat) (l : List UInt8), l.length ≤ n → Lib.splitB (S [c]) 0 (Lib.countB (S l) (S [c])) (S l) = (splitC c l).map S := by
  intro n
  induction n with
  | zero =>
    intro l hl
    have : l = [] := List.length_eq_zero_iff.1 (by omega)
    subst this
    rw [Lib.countB_miss _ _ (by rw [indexB_one]; rfl)]
    rfl
  | succ n ih =>
    intro l hl
    by_cases h : c ∈ l
    · obtain ⟨a, b, rfl, hn, hi⟩ := indexByte_split h
      have hix : Lib.indexB (S (a ++ c :: b)) (S [c]) = (a.length : Int) := by rw [indexB_one]; exact hi
      have he : (S (a ++ c :: b)).extract (a.length + (S [c]).size) (S (a ++ c :: b)).size = S b := by
        rw [size_S, size_S, extract_S, List.take_length]
        exact congrArg S (drop_past a c b)
      rw [Lib.countB_hit _ _ a.length (by rw [size_S]; simp) hix, Nat.add_comm 1, Lib.splitB_hit _ _ _ _ a.length hix, he, splitC_split hn, List.map_cons, ih b (by simp at hl; omega)]
      congr 1
      rw [extract_S]
      simp
    · rw [Lib.countB_miss _ _ (by rw [indexB_one]; exact indexByte_none.2 h), splitC_none h]
      rfl
theorem split_f (l : List UInt8) (c : UInt8) (hl : l.length < 4294967281) : strings_Split.f (S l) (S [c]) = some ((splitC c l).map S) := by
  unfold strings_Split.f
  rw [if_pos (by rw [size_S]; exact hl), if_pos (by rw [size_S]; simp), split_eq c _ l (Nat.le_refl _)]
theorem parts_ev (c : UInt8) (r : List UInt8) : ∀ (p q : List UInt8) (acc : List ByteArray), c ∉ q → (p ++ q ++ r).length ≤ 1000000 → acc.length + r.length ≤ 2000000 →
    Ev (fun k => gossamerref8_Parts.l0 k (S (p ++ q ++ r)) c.toNat acc (p.length : Int) ((p ++ q).length : Int)) (acc ++ (splitC c (q ++ r)).map S) := by
  induction r with
  | nil =>
    intro p q acc hq hl ha
    rw [List.append_nil, List.append_nil] at *
    have hpq : p.length + q.length ≤ 1000000 := by simpa using hl
    refine Ev.step (f := fun k => gossamerref8_Parts.l0 k (S (p ++ q)) c.toNat (acc ++ [S q]) ((p ++ q).length + 1 : Int) ((p ++ q).length + 1 : Int)) (fun k => ?_) (Ev.step (f := fun _ => some (acc ++ [S q])) (fun k => ?_) (by rw [splitC_none hq]; exact Ev.now _))
    · simp only [gossamerref8_Parts.l0, size_S]
      have e : (S (p ++ q)).extract ((p.length : Int)).toNat (((p ++ q).length : Int)).toNat = S q := by rw [extract_S, Int.toNat_natCast, Int.toNat_natCast]; have := mid_cut p q []; rw [List.append_nil] at this; rw [this]
      rw [if_pos (by omega), if_pos trivial, if_pos (by omega), if_pos (by simp; omega), if_pos (by simp at ha; omega), e, wrap64_id (by simp; omega) (by simp; omega)]
    · simp only [gossamerref8_Parts.l0, size_S]
      rw [if_neg (by omega)]
  | cons x r ih =>
    intro p q acc hq hl ha
    have hpq : p.length + q.length + r.length + 1 ≤ 1000000 := by simp at hl; omega
    have hlen : ((p ++ q ++ x :: r).length : Int) = (p.length : Int) + q.length + r.length + 1 := by simp; omega
    have hw : wrap64 (((p ++ q).length : Int) + 1) = ((p ++ q ++ [x]).length : Int) := next_mid _ _ (by simp; omega)
    by_cases hx : x = c
    · subst hx
      have := ih (p ++ q ++ [x]) [] (acc ++ [S q]) (by simp) (by simpa using hl) (by simp at ha ⊢; omega)
      refine Ev.step (f := fun k => gossamerref8_Parts.l0 k (S (p ++ q ++ x :: r)) x.toNat (acc ++ [S q]) ((p ++ q ++ [x]).length : Int) ((p ++ q ++ [x]).length : Int)) (fun k => ?_) ?_
      · simp only [gossamerref8_Parts.l0, size_S]
        have e : (S (p ++ q ++ x :: r)).extract ((p.length : Int)).toNat (((p ++ q).length : Int)).toNat = S q := by rw [extract_S, Int.toNat_natCast, Int.toNat_natCast, mid_cut]
        rw [if_pos (by rw [hlen]; simp; omega), if_neg (by rw [hlen]; simp; omega), if_pos (by omega), if_pos (by rw [hlen]; simp; omega), bt_mid (p ++ q) x r, if_pos rfl, if_pos (by omega), if_pos (by simp; omega), if_pos (by simp at ha; omega), e, hw]
      · rw [splitC_split hq, List.map_cons]
        have e2 : p ++ q ++ x :: r = p ++ q ++ [x] ++ [] ++ r := by simp
        have e3 : acc ++ S q :: List.map S (splitC x r) = acc ++ [S q] ++ List.map S (splitC x ([] ++ r)) := by simp
        rw [e2, e3]
        simpa using this
    · have := ih p (q ++ [x]) acc (by simp [hq]; exact fun h => hx h.symm) (by simpa using hl) (by simp at ha ⊢; omega)
      refine Ev.step (f := fun k => gossamerref8_Parts.l0 k (S (p ++ q ++ x :: r)) c.toNat acc (p.length : Int) ((p ++ q ++ [x]).length : Int)) (fun k => ?_) ?_
      · simp only [gossamerref8_Parts.l0, size_S]
        rw [if_pos (by rw [hlen]; simp; omega), if_neg (by rw [hlen]; simp; omega), if_pos (by omega), if_pos (by rw [hlen]; simp; omega), bt_mid (p ++ q) x r, if_neg (fun h => hx (UInt8.toNat_inj.1 (by omega))), hw]
      · simpa using this
theorem parts_f (c : UInt8) (l : List UInt8) (hl : l.length ≤ 1000000) : Ev (fun k => gossamerref8_Parts.f k (S l) c.toNat) ((splitC c l).map S) := by
  have := parts_ev c l [] [] [] (by simp) (by simpa using hl) (by simp; omega)
  exact this

theorem mem_splitC {c : UInt8} {l : List UInt8} : ∀ a ∈ splitC c l, a.length ≤ l.length := by
  induction l with
  | nil => intro a ha; simp [splitC] at ha; subst ha; simp
  | cons x r ih =>
    intro a ha
    unfold splitC at ha
    split at ha
    · simp at ha
      rcases ha with rfl | ha
      · simp
      · have := ih a ha; simp; omega
    · split at ha
      · simp at ha; subst ha; simp
      · rename_i h t e
        rw [e] at ih
        simp at ha
        rcases ha with rfl | ha
        · have := ih h (by simp); simp; omega
        · have := ih a (by simp [ha]); simp; omega
theorem rdOf_map (l : List (List UInt8)) (i : Nat) (h : i < l.length) : rdOf ByteArray.empty (l.map S) (i : Int) = S l[i] := by
  rw [rdOf_nat]; simp [h]
theorem bt_0 (x : UInt8) (r : List UInt8) : bt (S (x :: r)) 0 = x.toNat := bt_mid [] x r

/-! ### Clean -/
def oddL (a : List UInt8) : Bool := a == [] || a == [46] || a == [46, 46]
def cleanL (l : List UInt8) : Bool := match l with
  | [] => false
  | c :: r => if r = [] ∧ c = 47 then true else if c = 47 then !(splitC 47 r).any oddL else false
theorem odd_S (a : List UInt8) : file_Clean.odd (S a) = oddL a := by unfold file_Clean.odd oddL; rw [toList_S]
theorem has_prefix (l : List UInt8) : strings_HasPrefix.f (S l) (S [47]) = some (match l with | [] => false | c :: _ => c == 47) := by
  unfold strings_HasPrefix.f stringslite_HasPrefix.f
  cases l with
  | nil => rfl
  | cons c r =>
    simp only [size_S]
    rw [if_pos (by simp; omega), if_pos (by simp), if_pos (by simp; omega)]
    rw [extract_S, toList_S, toList_S]
    simp
theorem go_apart (r : List UInt8) (hl : r.length ≤ 1000) : file_apart.f (S (47 :: r)) = some ((splitC 47 r).map S) := by
  unfold file_apart.f
  have := split_f (47 :: r) 47 (by simp; omega)
  rw [show (⟨#[47]⟩ : ByteArray) = S [47] from rfl, this, splitC_hit]
  simp only [Option.bind_some]
  rw [if_pos (by simp; omega)]
  simp
theorem go_clean (l : List UInt8) (hl : l.length ≤ 1000) : file_Clean.f (S l) = some (cleanL l) := by
  unfold file_Clean.f
  rw [toList_S]
  cases l with
  | nil => rw [if_neg (by simp), show (⟨#[47]⟩ : ByteArray) = S [47] from rfl, has_prefix]; rfl
  | cons c r =>
    by_cases h1 : r = [] ∧ c = 47
    · obtain ⟨rfl, rfl⟩ := h1
      rw [if_pos rfl]; rfl
    · rw [if_neg (fun h => h1 (by simp at h; exact ⟨h.2, h.1⟩)), show (⟨#[47]⟩ : ByteArray) = S [47] from rfl, has_prefix]
      simp only [Option.bind_some]
      show _ = some (if r = [] ∧ c = 47 then true else if c = 47 then !(splitC 47 r).any oddL else false)
      rw [if_neg h1]
      by_cases hc : c = 47
      · subst hc
        rw [if_pos (by simp), if_pos rfl, go_apart r (by simp at hl; omega)]
        simp only [Option.bind_some]
        have := splitC_length 47 r
        rw [if_pos (by simp; simp at hl; omega)]
        congr 2
        rw [List.any_map]
        congr 1
        funext a
        exact odd_S a
      · rw [if_neg (by simpa using hc), if_neg hc]
theorem ref_clean_loop (L : List (List UInt8)) (hL : L.length ≤ 100000) (r : List (List UInt8)) : ∀ p : List (List UInt8), L = p ++ r →
    Ev (fun k => gossamerref14_Clean.l0 k (L.map S) (p.length : Int)) (!r.any oddL) := by
  induction r with
  | nil =>
    intro p hp
    refine Ev.step (f := fun _ => some true) (fun k => ?_) (Ev.now _)
    simp only [gossamerref14_Clean.l0]
    rw [if_neg (by rw [hp]; simp)]
  | cons a r ih =>
    intro p hp
    have hlen : p.length + r.length + 1 = L.length := by rw [hp]; simp; omega
    have hrd : rdOf ByteArray.empty (L.map S) (p.length : Int) = S a := by rw [rdOf_map L p.length (by omega)]; simp [hp]
    have hw : wrap64 ((p.length : Int) + 1) = ((p ++ [a]).length : Int) := next_mid p a (by omega)
    have := ih (p ++ [a]) (by rw [hp]; simp)
    by_cases h0 : a = []
    · subst h0
      refine Ev.step (f := fun _ => some false) (fun k => ?_) (Ev.now _)
      simp only [gossamerref14_Clean.l0, hrd, toList_S]
      rw [if_pos (by rw [List.length_map]; omega), if_pos (by omega), if_pos trivial]
    · by_cases h1 : a = [46]
      · subst h1
        refine Ev.step (f := fun _ => some false) (fun k => ?_) (Ev.now _)
        simp only [gossamerref14_Clean.l0, hrd, toList_S]
        rw [if_pos (by rw [List.length_map]; omega), if_pos (by omega), if_neg (by simp), if_pos trivial]
      · by_cases h2 : a = [46, 46]
        · subst h2
          refine Ev.step (f := fun _ => some false) (fun k => ?_) (Ev.now _)
          simp only [gossamerref14_Clean.l0, hrd, toList_S]
          rw [if_pos (by rw [List.length_map]; omega), if_pos (by omega), if_neg (by simp), if_neg (by simp), if_pos trivial]
        · refine Ev.step (f := fun k => gossamerref14_Clean.l0 k (L.map S) ((p ++ [a]).length : Int)) (fun k => ?_) ?_
          · simp only [gossamerref14_Clean.l0, hrd, toList_S]
            rw [if_pos (by rw [List.length_map]; omega), if_pos (by omega), if_neg h0, if_neg h1, if_neg h2, hw]
          · have e : oddL a = false := by unfold oddL; simp [h0, h1, h2]
            rw [List.any_cons, e, Bool.false_or]
            exact this
theorem ref_clean (l : List UInt8) (hl : l.length ≤ 1000) : Ev (fun k => gossamerref14_Clean.f k (S l)) (cleanL l) := by
  unfold gossamerref14_Clean.f
  simp only [toList_S, size_S]
  cases l with
  | nil =>
    simp only [if_neg (show ¬ ([] : List UInt8) = [47] by simp), if_true]
    refine Ev.step (f := fun _ => some false) (fun k => ?_) (Ev.now _)
    rfl
  | cons c r =>
    by_cases h1 : r = [] ∧ c = 47
    · obtain ⟨rfl, rfl⟩ := h1
      exact ⟨0, fun k _ => rfl⟩
    · have hne : ¬ c :: r = [47] := fun h => h1 (by simp at h; exact ⟨h.2, h.1⟩)
      simp only [if_neg hne, if_neg (show ¬ c :: r = [] by simp), if_pos (show (0 : Int) < ((c :: r).length : Int) by simp), bt_0]
      show Ev _ (if r = [] ∧ c = 47 then true else if c = 47 then !(splitC 47 r).any oddL else false)
      rw [if_neg h1]
      by_cases hc : c = 47
      · subst hc
        rw [if_pos rfl]
        refine Ev.step (f := fun k => (gossamerref8_Parts.f k (S r) 47).bind fun t => gossamerref14_Clean.l0 k t 0) (fun k => ?_) ?_
        · simp only [gossamerref14_Clean.j0, size_S, extract_S]
          rw [if_neg (by decide), if_pos (by simp; omega), List.take_length]
          rfl
        · have h2 := splitC_length 47 r
          exact Ev.bind (parts_f 47 r (by simp at hl; omega)) (ref_clean_loop _ (by simp at hl; omega) _ [] rfl)
      · rw [if_neg hc]
        refine Ev.step (f := fun _ => some false) (fun k => ?_) (Ev.now _)
        simp only [gossamerref14_Clean.j0]
        have hcn : ((c.toNat : Int) != 47) = true := by
          rw [bne_iff_ne]
          intro h
          exact hc (UInt8.toNat_inj.1 (by simpa using (by omega : c.toNat = 47)))
        rw [if_pos hcn]

/-! ### A part, told -/
def tellB (c : UInt8) : List UInt8 := ((file_told.f 9 (c.toNat : Int)).getD (S [])).data.toList
def encL (a : List UInt8) : List UInt8 := a.flatMap tellB
theorem told_all : ∀ n : Fin 256, (file_told.f 9 (n.val : Int)).any (fun t => decide (t.size ≤ 3)) = true := by decide +kernel
theorem told_9 (c : UInt8) : file_told.f 9 (c.toNat : Int) = some (S (tellB c)) ∧ (tellB c).length ≤ 3 := by
  have h := told_all ⟨c.toNat, c.toNat_lt⟩
  unfold tellB
  generalize file_told.f 9 (c.toNat : Int) = o at h
  cases o with
  | none => simp at h
  | some t => exact ⟨rfl, by simpa using h⟩
theorem told_ev (c : UInt8) : ∀ k, 9 ≤ k → file_told.f k (c.toNat : Int) = some (S (tellB c)) := by
  intro k hk
  exact at_rounds (fun k => file_told.mono _ k) hk (told_9 c).1
theorem go_tellL (k : Nat) (hk : 9 ≤ k) : ∀ (a acc : List UInt8), acc.length + 3 * a.length ≤ 1000000 → file_URL.tellL k a acc = some (acc ++ encL a)
  | [], acc, _ => by simp [file_URL.tellL, encL]
  | c :: r, acc, h => by
    have h3 := (told_9 c).2
    simp only [List.length_cons] at h
    rw [file_URL.tellL, told_ev c k hk, Option.bind_some, if_pos (by rw [size_S]; omega), data_S, go_tellL k hk r _ (by simp; omega)]
    simp [encL]
theorem go_tell (a : List UInt8) (ha : a.length ≤ 1000) : Ev (fun k => file_URL.tell k (S a)) (S (encL a)) := by
  refine ⟨9, fun k hk => ?_⟩
  show file_URL.tell k (S a) = _
  unfold file_URL.tell
  rw [if_pos (by rw [size_S]; omega), data_S, go_tellL k hk a [] (by simp; omega)]
  rfl
theorem wrap32_byte (c : UInt8) : wrap32 (c.toNat : Int) = (c.toNat : Int) := by have := c.toNat_lt; unfold wrap32; omega
theorem among_ev (x : Int) (r : List UInt8) : ∀ p : List UInt8, (p ++ r).length ≤ 1000 → Ev (fun k => gossamerref4_among.l0 k x (S (p ++ r)) (p.length : Int)) (r.any fun c => decide ((c.toNat : Int) = x)) := by
  induction r with
  | nil =>
    intro p hp
    refine ⟨1, fun n hn => ?_⟩
    obtain ⟨m, rfl⟩ : ∃ m, n = m + 1 := ⟨n - 1, by omega⟩
    simp only [gossamerref4_among.l0, size_S]
    rw [if_neg (by simp)]
    rfl
  | cons c r ih =>
    intro p hp
    simp only [List.length_append, List.length_cons] at hp
    have hw : wrap64 ((p.length : Int) + 1) = ((p ++ [c]).length : Int) := next_mid p c (by omega)
    obtain ⟨K, hK⟩ := ih (p ++ [c]) (by simp; omega)
    have e1 : p ++ [c] ++ r = p ++ c :: r := by simp
    rw [e1] at hK
    refine ⟨K + 1, fun n hn => ?_⟩
    obtain ⟨m, rfl⟩ : ∃ m, n = m + 1 := ⟨n - 1, by omega⟩
    have e3 := hK m (by omega)
    have hi : (p.length : Int) < ((S (p ++ c :: r)).size : Int) := by rw [size_S]; simp; omega
    simp only [gossamerref4_among.l0, if_pos hi, if_pos (show (0 : Int) ≤ (p.length : Int) by omega), bt_mid, wrap32_byte, hw]
    by_cases hx : (c.toNat : Int) = x
    · rw [if_pos hx]; simp [hx]
    · rw [if_neg hx]
      refine e3.trans ?_
      simp [hx]
def pathSet : List UInt8 := [32, 34, 35, 60, 62, 63, 94, 96, 123, 125]
def inV (n : Nat) : Bool := decide (n < 32) || decide (126 < n) || pathSet.any fun c => decide (c.toNat = n)
theorem in_ev (c : UInt8) : Ev (fun k => gossamerref4_In.f k 4 (wrap32 (c.toNat : Int))) (inV c.toNat) := by
  have hc := c.toNat_lt
  rw [wrap32_byte]
  obtain ⟨K, hK⟩ := among_ev (c.toNat : Int) pathSet [] (by decide)
  have hK' : ∀ k, K ≤ k → gossamerref4_among.f k (c.toNat : Int) (⟨#[32, 34, 35, 60, 62, 63, 94, 96, 123, 125]⟩ : ByteArray) = some (pathSet.any fun d => decide ((d.toNat : Int) = (c.toNat : Int))) := fun k hk => hK k hk
  refine ⟨K + 2, fun n hn => ?_⟩
  obtain ⟨m, rfl⟩ : ∃ m, n = m + 2 := ⟨n - 2, by omega⟩
  have e := hK' m (by omega)
  show gossamerref4_In.f (m + 2) 4 (c.toNat : Int) = _
  unfold gossamerref4_In.f
  rw [if_neg (by decide), if_neg (by decide), if_neg (by omega)]
  have hd : decide ((c.toNat : Int) > 1114111) = false := decide_eq_false (by omega)
  rw [hd]
  simp only [gossamerref4_In.j0, Bool.false_eq_true, if_false]
  unfold inV
  by_cases h1 : (c.toNat : Int) < 32
  · have : c.toNat < 32 := by omega
    simp [h1, this, gossamerref4_In.j1]
  · have h1' : ¬ c.toNat < 32 := by omega
    rw [if_neg h1]
    by_cases h2 : (c.toNat : Int) > 126
    · have : 126 < c.toNat := by omega
      have hf : decide ((c.toNat : Int) > 126) = true := decide_eq_true h2
      rw [hf]
      simp [this, gossamerref4_In.j1]
    · have h2' : ¬ 126 < c.toNat := by omega
      have hf : decide ((c.toNat : Int) > 126) = false := decide_eq_false h2
      rw [hf]
      simp only [gossamerref4_In.j1, Bool.false_eq_true, if_false, e, Option.bind_some]
      have hany : (pathSet.any fun d => decide ((d.toNat : Int) = (c.toNat : Int))) = (pathSet.any fun d => decide (d.toNat = c.toNat)) := by
        congr 1
        funext d
        rw [decide_eq_decide]
        omega
      rw [hany]
      simp only [decide_eq_false h1', decide_eq_false h2', Bool.false_or]
      cases hb : pathSet.any fun d => decide (d.toNat = c.toNat) <;> simp
def refStep (n : Nat) : Bool := match file_told.f 9 (n : Int) with
  | none => false
  | some t => if n > 126 then decide (gossamerref4_Hex.f (n : Int) = some t) else match inV n with
    | true => decide (gossamerref4_Hex.f (n : Int) = some t)
    | false => if n = 37 ∨ n = 92 ∨ n = 124 then decide (gossamerref4_Hex.f (n : Int) = some t) else decide (t = S [n.toUInt8])
theorem ref_all : ∀ n : Fin 256, refStep n.val = true := by decide +kernel
theorem enc_len (a : List UInt8) : (encL a).length ≤ 3 * a.length := by
  induction a with
  | nil => simp [encL]
  | cons c r ih => have := (told_9 c).2; simp [encL] at ih ⊢; omega
theorem ref_part_loop (r : List UInt8) : ∀ (p acc : List UInt8), (p ++ r).length ≤ 1000 → acc.length + 3 * r.length ≤ 1000000 →
    Ev (fun k => gossamerref14_part.l0 k (S (p ++ r)) (S acc) (p.length : Int)) (S (acc ++ encL r)) := by
  induction r with
  | nil =>
    intro p acc h1 h2
    refine Ev.step (f := fun _ => some (S acc)) (fun k => ?_) (by simp [encL]; exact Ev.now _)
    simp only [gossamerref14_part.l0, size_S]
    rw [if_neg (by simp)]
  | cons c r ih =>
    intro p acc h1 h2
    have h3 := (told_9 c).2
    simp only [List.length_cons, List.length_append] at h1 h2
    have hgo := ih (p ++ [c]) (acc ++ tellB c) (by simp; omega) (by simp; omega)
    have e1 : p ++ [c] ++ r = p ++ c :: r := by simp
    have e2 : acc ++ tellB c ++ encL r = acc ++ encL (c :: r) := by simp [encL]
    rw [e1, e2] at hgo
    have hw : wrap64 ((p.length : Int) + 1) = ((p ++ [c]).length : Int) := next_mid p c (by omega)
    have hbt : bt (S (p ++ c :: r)) (p.length : Int) = (c.toNat : Int) := bt_mid p c r
    have hi : (p.length : Int) < ((p ++ c :: r).length : Int) := by simp; omega
    have hi0 : (0 : Int) ≤ (p.length : Int) := by omega
    have hs := ref_all ⟨c.toNat, c.toNat_lt⟩
    unfold refStep at hs
    simp only [(told_9 c).1] at hs
    obtain ⟨K, hK⟩ := hgo
    have hexy : gossamerref4_Hex.f (c.toNat : Int) = some (S (tellB c)) → ∀ m, K ≤ m → ((gossamerref4_Hex.f (c.toNat : Int)).bind fun t => if (S acc).size + t.size ≤ 9223372036854775807 then gossamerref14_part.l0 m (S (p ++ c :: r)) (S acc ++ t) ((p ++ [c]).length : Int) else none) = some (S (acc ++ encL (c :: r))) := by
      intro hx m hm
      rw [hx, Option.bind_some, if_pos (by rw [size_S, size_S]; omega), append_S]
      exact hK m hm
    have hi' : (p.length : Int) < ((S (p ++ c :: r)).size : Int) := by rw [size_S]; exact hi
    by_cases h126 : (c.toNat : Int) > 126
    · rw [if_pos (show c.toNat > 126 by omega)] at hs
      refine ⟨K + 1, fun n hn => ?_⟩
      obtain ⟨m, rfl⟩ : ∃ m, n = m + 1 := ⟨n - 1, by omega⟩
      simp only [gossamerref14_part.l0, hbt, hw, if_pos hi', if_pos hi0, if_pos h126]
      exact hexy (by simpa using hs) m (by omega)
    · rw [if_neg (show ¬ c.toNat > 126 by omega)] at hs
      obtain ⟨K2, hI⟩ := in_ev c
      generalize inV c.toNat = b at hs hI
      · refine ⟨max K K2 + 1, fun n hn => ?_⟩
        obtain ⟨m, rfl⟩ : ∃ m, n = m + 1 := ⟨n - 1, by omega⟩
        have e4 := hI m (by omega)
        simp only [gossamerref14_part.l0, hbt, hw, if_pos hi', if_pos hi0, if_neg h126, e4, Option.bind_some]
        cases b with
        | true =>
          simp only [if_true]
          exact hexy (by simpa using hs) m (by omega)
        | false =>
          simp only [Bool.false_eq_true, if_false]
          have n1 : ∀ z : Nat, (c.toNat : Int) = (z : Int) ↔ c.toNat = z := fun z => by omega
          by_cases c1 : (c.toNat : Int) = 37
          · simp only [if_pos c1]
            exact hexy (by rw [if_pos (by omega)] at hs; simpa using hs) m (by omega)
          · by_cases c2 : (c.toNat : Int) = 92
            · simp only [if_neg c1, if_pos c2]
              exact hexy (by rw [if_pos (by omega)] at hs; simpa using hs) m (by omega)
            · by_cases c3 : (c.toNat : Int) = 124
              · simp only [if_neg c1, if_neg c2, if_pos c3]
                exact hexy (by rw [if_pos (by omega)] at hs; simpa using hs) m (by omega)
              · simp only [if_neg c1, if_neg c2, if_neg c3]
                have ht : tellB c = [c] := by
                  have h5 : ¬ (c.toNat = 37 ∨ c.toNat = 92 ∨ c.toNat = 124) := by omega
                  simp only [if_neg h5] at hs
                  have := S_inj (by simpa using hs)
                  rw [this]
                rw [extract_S, if_pos (by simp; omega), if_pos (by rw [size_S]; simp; omega)]
                have hd : List.drop ((p.length : Int)).toNat (List.take (((p ++ [c]).length : Int)).toNat (p ++ c :: r)) = [c] := by
                  rw [Int.toNat_natCast, Int.toNat_natCast]
                  have := mid_cut p [c] r
                  rw [e1] at this
                  exact this
                rw [hd, if_pos (by rw [size_S, size_S]; simp; omega), append_S]
                rw [ht] at hK
                exact hK m (by omega)
theorem ref_part (a : List UInt8) (ha : a.length ≤ 1000) : Ev (fun k => gossamerref14_part.f k (S a)) (S (encL a)) := by
  have := ref_part_loop a [] [] (by simpa using ha) (by simp; omega)
  exact this

/-! ### URLs -/
abbrev Rec := ByteArray × ByteArray × ByteArray × Int × ByteArray × Int × Int × Int × Int × Int × Int × Int × Int × Int × Int × Bool × List ByteArray × Bool × ByteArray × Bool × ByteArray × Int
def fileR (ps : List ByteArray) : Rec := (S [102, 105, 108, 101], S [], S [], 1, S [], 0, 0, 0, 0, 0, 0, 0, 0, 0, -1, false, ps, false, S [], false, S [], 0)
def noneR : Rec := (S [], S [], S [], 0, S [], 0, 0, 0, 0, 0, 0, 0, 0, 0, 0, false, [], false, S [], false, S [], 2)
def pathL (l : List UInt8) : List ByteArray := (splitC 47 (l.drop 1)).map (fun a => S (encL a))
def urlL (l : List UInt8) : Rec := if cleanL l = true then fileR (pathL l) else noneR
theorem clean_head {l : List UInt8} (h : cleanL l = true) : ∃ r, l = 47 :: r := by
  unfold cleanL at h
  split at h
  · simp at h
  · rename_i c r
    by_cases hc : c = 47
    · subst hc; exact ⟨r, rfl⟩
    · rw [if_neg (by simp [hc]), if_neg hc] at h; simp at h
theorem go_url_loop (L : List (List UInt8)) (hL : L.length ≤ 100000) (hs : ∀ a ∈ L, a.length ≤ 1000) (r : List (List UInt8)) : ∀ (p : List (List UInt8)) (acc : List ByteArray), L = p ++ r → acc.length ≤ p.length →
    Ev (fun k => file_URL.l0 k (L.map S) ((L.map S).length : Int) (p.length : Int) (S [102, 105, 108, 101]) (S []) (S []) 1 (S []) 0 0 0 0 0 0 0 0 0 (-1) false acc false (S []) false (S [])) (fileR (acc ++ r.map (fun a => S (encL a)))) := by
  induction r with
  | nil =>
    intro p acc hp ha
    refine ⟨1, fun n hn => ?_⟩
    obtain ⟨m, rfl⟩ : ∃ m, n = m + 1 := ⟨n - 1, by omega⟩
    simp only [file_URL.l0]
    rw [if_neg (by rw [hp]; simp)]
    simp [fileR]
  | cons a r ih =>
    intro p acc hp ha
    have hlen : p.length + r.length + 1 = L.length := by rw [hp]; simp; omega
    have hrd : rdOf ByteArray.empty (L.map S) (p.length : Int) = S a := by rw [rdOf_map L p.length (by omega)]; simp [hp]
    have hw : wrap64 ((p.length : Int) + 1) = ((p ++ [a]).length : Int) := next_mid p a (by omega)
    obtain ⟨K, hK⟩ := ih (p ++ [a]) (acc ++ [S (encL a)]) (by rw [hp]; simp) (by simp; omega)
    obtain ⟨K2, hT⟩ := go_tell a (hs a (by rw [hp]; simp))
    refine ⟨max K K2 + 1, fun n hn => ?_⟩
    obtain ⟨m, rfl⟩ : ∃ m, n = m + 1 := ⟨n - 1, by omega⟩
    have e4 := hT m (by omega)
    have e3 := hK m (by omega)
    have hi : (p.length : Int) < ((L.map S).length : Int) := by rw [List.length_map]; omega
    simp only [file_URL.l0, if_pos hi, if_pos (show (0 : Int) ≤ (p.length : Int) by omega), hrd, e4, Option.bind_some, file_URL.said, hw]
    rw [if_pos (by omega)]
    refine e3.trans ?_
    simp
theorem ref_url_loop (L : List (List UInt8)) (hL : L.length ≤ 100000) (hs : ∀ a ∈ L, a.length ≤ 1000) (r : List (List UInt8)) : ∀ (p : List (List UInt8)) (acc : List ByteArray), L = p ++ r → acc.length ≤ p.length →
    Ev (fun k => gossamerref14_URL.l0 k (L.map S) (p.length : Int) (S [102, 105, 108, 101]) (S []) (S []) 1 (S []) 0 0 0 0 0 0 0 0 0 (-1) false acc false (S []) false (S [])) (fileR (acc ++ r.map (fun a => S (encL a)))) := by
  induction r with
  | nil =>
    intro p acc hp ha
    refine ⟨1, fun n hn => ?_⟩
    obtain ⟨m, rfl⟩ : ∃ m, n = m + 1 := ⟨n - 1, by omega⟩
    simp only [gossamerref14_URL.l0]
    rw [if_neg (by rw [hp]; simp)]
    simp [fileR]
  | cons a r ih =>
    intro p acc hp ha
    have hlen : p.length + r.length + 1 = L.length := by rw [hp]; simp; omega
    have hrd : rdOf ByteArray.empty (L.map S) (p.length : Int) = S a := by rw [rdOf_map L p.length (by omega)]; simp [hp]
    have hw : wrap64 ((p.length : Int) + 1) = ((p ++ [a]).length : Int) := next_mid p a (by omega)
    obtain ⟨K, hK⟩ := ih (p ++ [a]) (acc ++ [S (encL a)]) (by rw [hp]; simp) (by simp; omega)
    obtain ⟨K2, hT⟩ := ref_part a (hs a (by rw [hp]; simp))
    refine ⟨max K K2 + 1, fun n hn => ?_⟩
    obtain ⟨m, rfl⟩ : ∃ m, n = m + 1 := ⟨n - 1, by omega⟩
    have e4 := hT m (by omega)
    have e3 := hK m (by omega)
    have hi : (p.length : Int) < ((L.map S).length : Int) := by rw [List.length_map]; omega
    simp only [gossamerref14_URL.l0, if_pos hi, if_pos (show (0 : Int) ≤ (p.length : Int) by omega), hrd, e4, Option.bind_some, hw]
    rw [if_pos (by omega)]
    refine e3.trans ?_
    simp
theorem go_url (l : List UInt8) (hl : l.length ≤ 500) : Ev (fun k => file_URL.f k (S l)) (urlL l) := by
  unfold file_URL.f
  rw [go_clean l (by omega)]
  simp only [Option.bind_some]
  unfold urlL
  by_cases hc : cleanL l = true
  · obtain ⟨r, rfl⟩ := clean_head hc
    simp only [if_pos hc]
    rw [go_apart r (by simp at hl; omega)]
    simp only [Option.bind_some]
    have h2 := splitC_length 47 r
    simp only [List.length_cons] at hl
    exact go_url_loop (splitC 47 r) (by omega) (fun a ha => by have := mem_splitC a ha; omega) _ [] [] rfl (by simp)
  · simp only [if_neg hc]
    exact Ev.now _
theorem ref_url (l : List UInt8) (hl : l.length ≤ 500) : Ev (fun k => gossamerref14_URL.f k (S l)) (urlL l) := by
  unfold gossamerref14_URL.f
  refine Ev.bind (ref_clean l (by omega)) ?_
  unfold urlL
  by_cases hc : cleanL l = true
  · obtain ⟨r, rfl⟩ := clean_head hc
    simp only [if_pos hc, size_S, extract_S]
    have h2 := splitC_length 47 r
    simp only [List.length_cons] at hl
    simp only [if_pos (show (1 : Int) ≤ ((47 :: r).length : Int) by simp; omega)]
    have e : List.drop 1 (List.take (47 :: r).length (47 :: r)) = r := by rw [List.take_length]; rfl
    rw [e]
    refine Ev.bind (parts_f 47 r (by omega)) ?_
    exact ref_url_loop (splitC 47 r) (by omega) (fun a ha => by have := mem_splitC a ha; omega) _ [] [] rfl (by simp)
  · simp only [if_neg hc]
    exact Ev.now _
def folderL (l : List UInt8) : Rec := if cleanL l = true then (if l = [47] then fileR (pathL l) else fileR (pathL l ++ [S []])) else noneR
theorem path_len (l : List UInt8) : (pathL l).length ≤ l.length + 1 := by
  unfold pathL
  rw [List.length_map]
  have := splitC_length 47 (l.drop 1)
  simp at this ⊢
  omega
theorem go_folder (l : List UInt8) (hl : l.length ≤ 500) : Ev (fun k => file_Folder.f k (S l)) (folderL l) := by
  unfold file_Folder.f
  refine Ev.bind (go_url l hl) ?_
  have h1 := path_len l
  unfold urlL folderL
  by_cases hc : cleanL l = true
  · simp only [if_pos hc, fileR, toList_S, if_true]
    by_cases h47 : l = [47]
    · simp only [if_pos h47]; exact Ev.now _
    · simp only [if_neg h47, if_pos (show (pathL l).length < 8796093022208 by omega)]; exact Ev.now _
  · simp only [if_neg hc, noneR]
    exact Ev.now _
theorem ref_folder (l : List UInt8) (hl : l.length ≤ 500) : Ev (fun k => gossamerref14_Folder.f k (S l)) (folderL l) := by
  unfold gossamerref14_Folder.f
  refine Ev.bind (ref_url l hl) ?_
  have h1 := path_len l
  unfold urlL folderL
  by_cases hc : cleanL l = true
  · simp only [if_pos hc, fileR, toList_S, if_true]
    by_cases h47 : l = [47]
    · simp only [if_pos h47]; exact Ev.now _
    · simp only [if_neg h47, if_pos (show (pathL l).length < 8796093022208 by omega)]; exact Ev.now _
  · simp only [if_neg hc, noneR]
    exact Ev.now _
theorem texts_ev (L : List ByteArray) (hL : L.length ≤ 100000) (r : List ByteArray) : ∀ p : List ByteArray, L = p ++ r → Ev (fun k => gossamerref13_Texts.l0 k L L (p.length : Int)) true := by
  induction r with
  | nil =>
    intro p hp
    refine ⟨1, fun n hn => ?_⟩
    obtain ⟨m, rfl⟩ : ∃ m, n = m + 1 := ⟨n - 1, by omega⟩
    simp only [gossamerref13_Texts.l0]
    rw [if_neg (by rw [hp]; simp)]
  | cons a r ih =>
    intro p hp
    have hlen : p.length + r.length + 1 = L.length := by rw [hp]; simp; omega
    have hw : wrap64 ((p.length : Int) + 1) = ((p ++ [a]).length : Int) := next_mid p a (by omega)
    refine Ev.step (f := fun k => gossamerref13_Texts.l0 k L L ((p ++ [a]).length : Int)) (fun k => ?_) (ih (p ++ [a]) (by rw [hp]; simp))
    simp only [gossamerref13_Texts.l0]
    rw [if_pos (by omega), if_pos (by omega), if_pos (by omega), if_pos trivial, hw]
theorem texts (L : List ByteArray) (hL : L.length ≤ 100000) : Ev (fun k => gossamerref13_Texts.f k L L) true := by
  unfold gossamerref13_Texts.f
  simp only [if_true]
  exact texts_ev L hL L [] rfl
theorem awake_now : gossamerlaw14_awake.f 60 = some true := by kernel_rfl
theorem awake : Ev (fun k => gossamerlaw14_awake.f k) true := Ev.of (fun k => gossamerlaw14_awake.mono k) awake_now
end Go.Proofs.YthnlgnnodgeneaaDoor.File
