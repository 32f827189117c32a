/- How small whole numbers stand to each other as floats: plain facts, no program. -/
import Derived.Laws.Cover2
import Derived.Laws.Cover3
import Derived.Laws.FloatArith
import Derived.KernelRfl
namespace Go.Proofs.YtngkeifkeffkdaaF

/-- What 'float64(n)' reads as, for a small n. -/
def small (n : Nat) : Ieee.Datum := if n = 0 then .number false 0 (-1074) else .number false (n * 2 ^ (52 - n.log2)) ((n.log2 : Int) - 52)

theorem read_small_all : ∀ n : Fin 512, FloatKind.f64.format.read (floatOfInt .f64 (n.val : Int)) = small n.val := by decide +kernel
theorem read_small (n : Nat) (h : n < 512) : FloatKind.f64.format.read (floatOfInt .f64 (n : Int)) = small n := read_small_all ⟨n, h⟩
theorem log2_small (n : Nat) (h : n < 512) : n.log2 ≤ 8 := by
  by_cases h0 : n = 0
  · subst h0; decide
  · have : n.log2 < 9 := (Nat.log2_lt h0).2 (by omega)
    omega
theorem shl (a b : Nat) : a <<< b = a * 2 ^ b := Nat.shiftLeft_eq a b
theorem signed_false (m up : Nat) : Ieee.signed false m up = ((m * 2 ^ up : Nat) : Int) := by simp [Ieee.signed, shl]
theorem pow_split (n a b : Nat) : n * 2 ^ a * 2 ^ b = n * 2 ^ (a + b) := by rw [Nat.mul_assoc, ← Nat.pow_add]
theorem compare_scale (m n k : Nat) : compare ((m * 2 ^ k : Nat) : Int) ((n * 2 ^ k : Nat) : Int) = compare (m : Int) (n : Int) := by
  have hk : 0 < 2 ^ k := Nat.two_pow_pos k
  rcases Nat.lt_trichotomy m n with h | h | h
  · have h2 : m * 2 ^ k < n * 2 ^ k := Nat.mul_lt_mul_of_pos_right h hk
    rw [Int.compare_eq_lt.2 (by exact_mod_cast h2), Int.compare_eq_lt.2 (by exact_mod_cast h)]
  · subst h; simp
  · have h2 : n * 2 ^ k < m * 2 ^ k := Nat.mul_lt_mul_of_pos_right h hk
    rw [Int.compare_eq_gt.2 (by exact_mod_cast h2), Int.compare_eq_gt.2 (by exact_mod_cast h)]
theorem order_small (m n : Nat) (hm : m < 512) (hn : n < 512) : FloatKind.f64.format.order (floatOfInt .f64 (m : Int)) (floatOfInt .f64 (n : Int)) = some (compare (m : Int) (n : Int)) := by
  unfold Ieee.Format.order
  rw [read_small m hm, read_small n hn]
  have lm := log2_small m hm
  have ln := log2_small n hn
  unfold small
  by_cases m0 : m = 0 <;> by_cases n0 : n = 0
  · subst m0 n0; rfl
  · subst m0
    rw [if_pos rfl, if_neg n0]
    unfold Ieee.Datum.order
    simp only [signed_false]
    congr 1
    generalize ((n.log2 : Int) - 52 - min (-1074) ((n.log2 : Int) - 52)).toNat = a
    generalize ((-1074 : Int) - min (-1074) ((n.log2 : Int) - 52)).toNat = b
    generalize 52 - n.log2 = c
    have h2 : 0 < n * 2 ^ c * 2 ^ a := Nat.mul_pos (Nat.mul_pos (by omega) (Nat.two_pow_pos _)) (Nat.two_pow_pos _)
    rw [Nat.zero_mul, Int.compare_eq_lt.2 (by exact_mod_cast h2), Int.compare_eq_lt.2 (by omega)]
  · subst n0
    rw [if_neg m0, if_pos rfl]
    unfold Ieee.Datum.order
    simp only [signed_false]
    congr 1
    generalize ((m.log2 : Int) - 52 - min ((m.log2 : Int) - 52) (-1074)).toNat = a
    generalize ((-1074 : Int) - min ((m.log2 : Int) - 52) (-1074)).toNat = b
    generalize 52 - m.log2 = c
    have h2 : 0 < m * 2 ^ c * 2 ^ a := Nat.mul_pos (Nat.mul_pos (by omega) (Nat.two_pow_pos _)) (Nat.two_pow_pos _)
    rw [Nat.zero_mul, Int.compare_eq_gt.2 (by exact_mod_cast h2), Int.compare_eq_gt.2 (by omega)]
  · rw [if_neg m0, if_neg n0]
    unfold Ieee.Datum.order
    simp only [signed_false, pow_split]
    congr 1
    have e1 : 52 - m.log2 + ((m.log2 : Int) - 52 - min ((m.log2 : Int) - 52) ((n.log2 : Int) - 52)).toNat = (0 - min ((m.log2 : Int) - 52) ((n.log2 : Int) - 52)).toNat := by omega
    have e2 : 52 - n.log2 + ((n.log2 : Int) - 52 - min ((m.log2 : Int) - 52) ((n.log2 : Int) - 52)).toNat = (0 - min ((m.log2 : Int) - 52) ((n.log2 : Int) - 52)).toNat := by omega
    rw [e1, e2, compare_scale]

theorem order_int (m n : Int) (h0 : 0 ≤ m) (h1 : m < 512) (h2 : 0 ≤ n) (h3 : n < 512) : FloatKind.f64.format.order (floatOfInt .f64 m) (floatOfInt .f64 n) = some (compare m n) := by
  obtain ⟨a, rfl⟩ := Int.eq_ofNat_of_zero_le h0
  obtain ⟨b, rfl⟩ := Int.eq_ofNat_of_zero_le h2
  exact order_small a b (by omega) (by omega)
end Go.Proofs.YtngkeifkeffkdaaF
