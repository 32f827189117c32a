/- Small laws that the contracts by hand on the library lean on. No program. -/
import Derived.Test.YtcpfhnodbgojaaaDoorWMore
import Derived.Lib.Split
import Derived.Lib.SplitLaws
import Derived.Lib.ItoaNum
import Derived.Lib.Join
import Derived.WalkSpells
namespace Go.Proofs.YtcpfhnodbgojaaaDoorL
open Go.RowKit Go.Proofs.YtcpfhnodbgojaaaDoorW.PrintWords
/-- The decimal digits of a number, by so many steps. -/
def decF : Nat → Nat → List UInt8
  | 0, _ => []
  | f + 1, u => if u < 10 then [UInt8.ofNat (48 + u)] else decF f (u / 10) ++ [UInt8.ofNat (48 + u % 10)]
def decI (n : Int) : List UInt8 := if n < 0 then 45 :: decF 20 n.natAbs else decF 20 n.toNat
theorem decF_eq : ∀ (f u : Nat), u < 10 ^ f → 0 < f → decF f u = Lib.decDigits u
  | 0, u, _, h => absurd h (by omega)
  | f + 1, u, h, _ => by
    unfold decF
    rw [Lib.decDigits]
    by_cases hu : u < 10
    · rw [if_pos hu, dif_pos hu]
    · rw [if_neg hu, dif_neg hu]
      by_cases hf : f = 0
      · subst hf; simp at h; omega
      · rw [decF_eq f (u / 10) (by rw [Nat.pow_succ] at h; omega) (by omega)]
theorem decI_eq (n : Int) (h1 : -9223372036854775808 ≤ n) (h2 : n ≤ 9223372036854775807) : Lib.itoa n = decI n := by
  unfold Lib.itoa decI
  split
  · rw [decF_eq 20 _ (by omega) (by omega)]
  · rw [decF_eq 20 _ (by omega) (by omega)]
theorem strings_at {w : World} {A : Option Addr} {l : List ByteArray} (h : Kd.C Kd.string w A l.length l) (h0 : 0 < l.length) :
    ∃ b o, A = some ⟨b, o, none⟩ ∧ b < w.heap.size ∧ ∀ (j : Nat) x, l[j]? = some x → w.cell? ⟨b, o + j, none⟩ = some (.string x) := by
  obtain ⟨ad, rfl, hc⟩ := h.2.2 h0
  have at_ : ∀ (j : Nat) x, l[j]? = some x → w.cell? (ad.add j) = some (.string x) := by
    intro j x hj
    obtain ⟨c, hl, hk, hcell⟩ := hc j x hj
    have hk : c = [.string x] := hk
    subst hk
    have := hcell 0 _ rfl
    simpa [show (Kd.string).sz = 1 from rfl] using this
  obtain ⟨x, hx⟩ : ∃ x, l[0]? = some x := ⟨l[0], List.getElem?_eq_getElem h0⟩
  have h1 := at_ 0 x hx
  have e0 : ad.add 0 = ad := rfl
  rw [e0] at h1
  obtain ⟨b, o, s⟩ := ad
  cases s with
  | some n =>
    unfold World.cell? at h1
    simp at h1
    split at h1 <;> simp at h1
  | none =>
    refine ⟨b, o, rfl, World.block_lt_of_cell? w _ h1, fun j x hj => ?_⟩
    have := at_ j x hj
    unfold Addr.add at this
    split at this
    · rename_i hz; subst hz; simpa using this
    · exact this
theorem lit_strings (e : TypeId) (w : World) (l : List ByteArray) (hl : l.length ≤ 9223372036854775807) :
    Kd.R Kd.string e (w.alloc (.cells (l.map Value.string).toArray e)) w.heap.size (fun _ => True) (.slice (some ⟨w.heap.size, 0, none⟩) l.length l.length) l := by
  have h := own_lit_of (enc := Value.string) w w.heap.size e l (Nat.le_refl _) hl
  refine ⟨fun _ _ => trivial, l.map Value.string, h, ⟨by simp [show (Kd.string).sz = 1 from rfl], fun j p hp => ?_⟩⟩
  show ((l.map Value.string).drop (j * 1)).take 1 = [.string p]
  rw [Nat.mul_one]
  have hj : j < l.length := (List.getElem?_eq_some_iff.1 hp).1
  rw [List.drop_eq_getElem_cons (by simpa using hj)]
  have := (List.getElem?_eq_some_iff.1 hp).2
  simp [this]
theorem splitB_length (s sep : ByteArray) (h : 1 ≤ sep.size) : (Lib.splitB sep 0 (Lib.countB s sep) s).length = Lib.countB s sep + 1 := Lib.splitB_all sep h 0 _ s rfl
theorem countB_le (s sep : ByteArray) (h : 1 ≤ sep.size) : Lib.countB s sep ≤ s.size := Lib.countB_le sep h _ s (Nat.le_refl _)
end Go.Proofs.YtcpfhnodbgojaaaDoorL
