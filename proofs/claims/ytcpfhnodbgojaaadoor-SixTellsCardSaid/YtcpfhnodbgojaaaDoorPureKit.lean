/- Texts as lists of bytes, and small laws on the printed words: plain, no program. -/
import Derived.Test.YtcpfhnodbgojaaaDoorWMore
import Derived.Lib.Bytealg
import Derived.Lib.Strings
namespace Go.Proofs.YtcpfhnodbgojaaaDoorK
open Go.RowKit Go.Proofs.YtcpfhnodbgojaaaDoorW.PrintWords

/-- A text of a list of bytes. -/
def S (l : List UInt8) : ByteArray := ⟨⟨l⟩⟩
theorem S_of (s : ByteArray) : ∃ l, s = S l := ⟨s.data.toList, rfl⟩
theorem size_S (l : List UInt8) : (S l).size = l.length := id (rfl : (S l).size = l.length)   -- not by 'rfl' itself: simp is to turn the tests' instances, too
theorem toList_S (l : List UInt8) : (S l).toList = l := by rw [ByteArray.toList_eq]; rfl
theorem extract_S (l : List UInt8) (i j : Nat) : (S l).extract i j = S ((l.take j).drop i) := by
  apply ByteArray.ext
  rw [ByteArray.data_extract]
  show (⟨l⟩ : Array UInt8).extract i j = ⟨(l.take j).drop i⟩
  apply Array.ext'
  rw [Array.toList_extract, List.extract_eq_drop_take']
theorem bt_S (l : List UInt8) (i : Nat) (h : i < l.length) : bt (S l) (i : Int) = (l[i].toNat : Int) := by
  have hs : i < (S l).size := h
  unfold bt
  rw [dif_pos (by simpa using hs)]
  rfl
theorem wrap64_id {x : Int} (h0 : -9223372036854775808 ≤ x) (h1 : x ≤ 9223372036854775807) : wrap64 x = x := by unfold wrap64; omega
theorem rdOf_nat {α : Type} (d : α) (xs : List α) (i : Nat) : rdOf d xs (i : Int) = xs.getD i d := rfl
/-- A byte and the number that it is. -/
theorem byte_eq {c : UInt8} {z : Int} (h0 : 0 ≤ z) (h1 : z < 256) : ((c.toNat : Int) = z) ↔ c = UInt8.ofNat z.toNat := by
  obtain ⟨n, rfl⟩ := Int.eq_ofNat_of_zero_le h0
  constructor
  · intro h
    have h2 : c.toNat = n := by omega
    apply UInt8.toNat_inj.1
    rw [h2, UInt8.toNat_ofNat_of_lt' (by simp [UInt8.size]; omega)]
    rfl
  · rintro rfl
    rw [UInt8.toNat_ofNat_of_lt' (by simp [UInt8.size]; omega)]
    rfl
theorem bt_mid (p : List UInt8) (c : UInt8) (r : List UInt8) : bt (S (p ++ c :: r)) (p.length : Int) = (c.toNat : Int) := by
  rw [bt_S _ _ (by simp)]
  simp
theorem rd_mid (p : List Int) (x : Int) (r : List Int) : rd (p ++ x :: r) (p.length : Int) = x := by
  unfold rd; simp
theorem lt_mid {α : Type} (p : List α) (x : α) (r : List α) : (p.length : Int) < ((p ++ x :: r).length : Int) := by simp; omega
theorem not_lt_end {α : Type} (p : List α) : ¬ (p.length : Int) < ((p ++ []).length : Int) := by simp
theorem next_mid {α : Type} (p : List α) (x : α) (h : p.length < 9223372036854775807) : wrap64 ((p.length : Int) + 1) = ((p ++ [x]).length : Int) := by
  rw [wrap64_id (by omega) (by omega)]; simp
theorem mid_shift {α : Type} (p : List α) (x : α) (r : List α) : p ++ x :: r = (p ++ [x]) ++ r := by simp
theorem drop_past {α : Type} (a : List α) (c : α) (b : List α) : (a ++ c :: b).drop (a.length + 1) = b := by
  rw [List.drop_append]
  simp
theorem mid_cut {α : Type} (p q r : List α) : ((p ++ q ++ r).take (p ++ q).length).drop p.length = q := by
  rw [List.take_left, List.drop_left]
theorem Ev.at {α : Type} {g : Nat → Option α} {r : α} (h : ∀ k, g k = some r) : Ev g r := ⟨0, fun k _ => h k⟩
/-- The first place of a byte; none. -/
theorem indexByte_none {l : List UInt8} {c : UInt8} : Lib.indexByte l c = -1 ↔ c ∉ l := by
  induction l with
  | nil => simp [Lib.indexByte]
  | cons b l ih =>
    have hge := Lib.indexByte_ge l c
    unfold Lib.indexByte
    by_cases hb : b = c
    · subst hb; simp
    · have hb' : (b == c) = false := by simpa using hb
      rw [hb']
      by_cases h1 : Lib.indexByte l c = -1
      · rw [h1]; simp; exact ⟨fun h => hb h.symm, ih.1 h1⟩
      · have h1' : (Lib.indexByte l c == -1) = false := by simpa using h1
        rw [h1']
        have := mt ih.2 h1
        simp only [Classical.not_not] at this
        simp [this]
        omega
theorem indexByte_split {l : List UInt8} {c : UInt8} (h : c ∈ l) : ∃ a b, l = a ++ c :: b ∧ c ∉ a ∧ Lib.indexByte l c = a.length := by
  induction l with
  | nil => simp at h
  | cons d l ih =>
    by_cases hd : d = c
    · subst hd; exact ⟨[], l, rfl, by simp, by simp [Lib.indexByte]⟩
    · have hm : c ∈ l := by simp at h; rcases h with h | h; exact absurd h.symm hd; exact h
      obtain ⟨a, b, rfl, hn, hi⟩ := ih hm
      refine ⟨d :: a, b, rfl, by simp [hn]; exact fun h => hd h.symm, ?_⟩
      unfold Lib.indexByte
      have hd' : (d == c) = false := by simpa using hd
      rw [hd', hi]
      simp
end Go.Proofs.YtcpfhnodbgojaaaDoorK
