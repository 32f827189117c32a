-- WRITTEN BY A PROGRAM OF THIS SESSION (wip/tools/xprint.py, over the kit's print.py).
import Derived.Test.YtamjlbbjemihiaaDoorPFx0
import Derived.Test.YtamjlbbjemihiaaDoorPFx2
import Derived.Test.YtamjlbbjemihiaaDoorPFx6
import Derived.Test.YtamjlbbjemihiaaDoorPFx7
namespace Go.Proofs.YtamjlbbjemihiaaDoor.PF
open Go.RowKit Go.Proofs.YtamjlbbjemihiaaDoorW.PrintWords Go.Proofs.YtamjlbbjemihiaaDoorW.PrintLast Go.Proofs.YtamjlbbjemihiaaDoorW.PrintMore Go.Proofs.YtamjlbbjemihiaaDoorE
attribute [local go_sem] max2_int min2_int max_two min_two max_three min_three max_four min_four   -- for this text's walks alone
set_option linter.unusedVariables false
set_option linter.unusedSimpArgs false

/-! ### gossamerlaw8_FourForms: function 5 -/
mutual
def gossamerlaw8_FourForms.l0 : Nat → Int → List Int → Bool → Int → ByteArray → Int → Option (Bool)
  | 0, _, _, _, _, _, _ => none
  | k + 1, x0, x2, x3, x9, x10, x11 => if x11 < x9 then (if 0 ≤ (wrap64 (8 * (wrap64 (3 - x11)))) then (if x11 = (wrap64 (x9 - 1)) then (if 0 ≤ (wrap64 (8 * x11)) then (gossamerlaw8_FourForms.j1 k x0 x2 x3 x9 x10 x11 (shr .u32 (shl .u32 x0 (wrap64 (8 * x11))) (wrap64 (8 * x11)))) else (none)) else (gossamerlaw8_FourForms.j1 k x0 x2 x3 x9 x10 x11 (Go.bits .and .u32 (shr .u32 x0 (wrap64 (8 * (wrap64 (3 - x11))))) 255))) else (none)) else (if x3 = true then (if x10.size + 1 ≤ 9223372036854775807 then ((ip4_Parse.f k (x10 ++ (⟨#[46]⟩ : ByteArray))).bind fun bt201 => (if bt201.2 = true then (if bt201.1 = x0 then ((ip4_Ends.f k (x10 ++ (⟨#[46]⟩ : ByteArray))).bind fun t203 => (if t203 = true then ((gossamerlaw8_awake.f k).bind fun t204 => (some t204)) else (some false))) else (some false)) else (some false))) else (none)) else ((ip4_Parse.f k x10).bind fun bt205 => (if bt205.2 = true then (if bt205.1 = x0 then ((ip4_Ends.f k x10).bind fun t207 => (if t207 = true then ((gossamerlaw8_awake.f k).bind fun t208 => (some t208)) else (some false))) else (some false)) else (some false))))
def gossamerlaw8_FourForms.j1 : Nat → Int → List Int → Bool → Int → ByteArray → Int → Int → Option (Bool)
  | 0, _, _, _, _, _, _, _ => none
  | k + 1, x0, x2, x3, x9, x10, x11, x12 => if x11 < (x2.length : Int) then (if 0 ≤ x11 then ((gossamerlaw0_Low.f (rd x2 x11) 4).bind fun t196 => (gossamerlaw8_FourForms.j2 k x0 x2 x3 x9 x10 x11 x12 t196)) else (none)) else (gossamerlaw8_FourForms.j2 k x0 x2 x3 x9 x10 x11 x12 0)
def gossamerlaw8_FourForms.j2 : Nat → Int → List Int → Bool → Int → ByteArray → Int → Int → Int → Option (Bool)
  | 0, _, _, _, _, _, _, _, _ => none
  | k + 1, x0, x2, x3, x9, x10, x11, x12, x13 => if x11 > 0 then (if x10.size + 1 ≤ 9223372036854775807 then (gossamerlaw8_FourForms.j3 k x0 x2 x3 x9 (x10 ++ (⟨#[46]⟩ : ByteArray)) x11 x12 x13) else (none)) else (gossamerlaw8_FourForms.j3 k x0 x2 x3 x9 x10 x11 x12 x13)
def gossamerlaw8_FourForms.j3 : Nat → Int → List Int → Bool → Int → ByteArray → Int → Int → Int → Option (Bool)
  | 0, _, _, _, _, _, _, _, _ => none
  | k + 1, x0, x2, x3, x9, x10, x11, x12, x13 => if x13 = 0 then ((gossamerlaw8_digits.f k x12 10).bind fun t197 => (if x10.size + t197.size ≤ 9223372036854775807 then (gossamerlaw8_FourForms.l0 k x0 x2 x3 x9 (x10 ++ t197) (wrap64 (x11 + 1))) else (none))) else (if x13 = 1 then (if x10.size + 1 ≤ 9223372036854775807 then ((gossamerlaw8_digits.f k x12 8).bind fun t198 => (if (x10 ++ (⟨#[48]⟩ : ByteArray)).size + t198.size ≤ 9223372036854775807 then (gossamerlaw8_FourForms.l0 k x0 x2 x3 x9 ((x10 ++ (⟨#[48]⟩ : ByteArray)) ++ t198) (wrap64 (x11 + 1))) else (none))) else (none)) else (if x13 = 2 then (if x10.size + 2 ≤ 9223372036854775807 then ((gossamerlaw8_digits.f k x12 16).bind fun t199 => (if (x10 ++ (⟨#[48, 120]⟩ : ByteArray)).size + t199.size ≤ 9223372036854775807 then (gossamerlaw8_FourForms.l0 k x0 x2 x3 x9 ((x10 ++ (⟨#[48, 120]⟩ : ByteArray)) ++ t199) (wrap64 (x11 + 1))) else (none))) else (none)) else (if x10.size + 5 ≤ 9223372036854775807 then ((gossamerlaw8_digits.f k x12 16).bind fun t200 => (if (x10 ++ (⟨#[48, 88, 48, 48, 48]⟩ : ByteArray)).size + t200.size ≤ 9223372036854775807 then (gossamerlaw8_FourForms.l0 k x0 x2 x3 x9 ((x10 ++ (⟨#[48, 88, 48, 48, 48]⟩ : ByteArray)) ++ t200) (wrap64 (x11 + 1))) else (none))) else (none))))
end
def gossamerlaw8_FourForms.f (k : Nat) (a0 : Int) (a1 : Int) (l2 : List Int) (a3 : Bool) : Option (Bool) := (gossamerlaw0_Low.f a1 4).bind fun t194 => (gossamerlaw8_FourForms.l0 k a0 l2 a3 (wrap64 (1 + t194)) (⟨#[]⟩ : ByteArray) 0)
theorem gossamerlaw8_FourForms.mono_l : ∀ k, (∀ y0 y1 y2 y3 y4 y5, LeO (gossamerlaw8_FourForms.l0 k y0 y1 y2 y3 y4 y5) (gossamerlaw8_FourForms.l0 (k + 1) y0 y1 y2 y3 y4 y5)) ∧ (∀ y0 y1 y2 y3 y4 y5 y6, LeO (gossamerlaw8_FourForms.j1 k y0 y1 y2 y3 y4 y5 y6) (gossamerlaw8_FourForms.j1 (k + 1) y0 y1 y2 y3 y4 y5 y6)) ∧ (∀ y0 y1 y2 y3 y4 y5 y6 y7, LeO (gossamerlaw8_FourForms.j2 k y0 y1 y2 y3 y4 y5 y6 y7) (gossamerlaw8_FourForms.j2 (k + 1) y0 y1 y2 y3 y4 y5 y6 y7)) ∧ (∀ y0 y1 y2 y3 y4 y5 y6 y7, LeO (gossamerlaw8_FourForms.j3 k y0 y1 y2 y3 y4 y5 y6 y7) (gossamerlaw8_FourForms.j3 (k + 1) y0 y1 y2 y3 y4 y5 y6 y7))
  | 0 => ⟨fun _ _ _ _ _ _ r h => by simp [gossamerlaw8_FourForms.l0] at h, fun _ _ _ _ _ _ _ r h => by simp [gossamerlaw8_FourForms.j1] at h, fun _ _ _ _ _ _ _ _ r h => by simp [gossamerlaw8_FourForms.j2] at h, fun _ _ _ _ _ _ _ _ r h => by simp [gossamerlaw8_FourForms.j3] at h⟩
  | k + 1 => by
    obtain ⟨ih0, ih1, ih2, ih3⟩ := gossamerlaw8_FourForms.mono_l k
    refine ⟨?_, ?_, ?_, ?_⟩
    · intro y0 y1 y2 y3 y4 y5
      unfold gossamerlaw8_FourForms.l0
      repeat' first
      | (with_reducible exact ih0 _ _ _ _ _ _)
      | (with_reducible exact ih1 _ _ _ _ _ _ _)
      | (with_reducible exact ih2 _ _ _ _ _ _ _ _)
      | (with_reducible exact ih3 _ _ _ _ _ _ _ _)
      | (with_reducible exact gossamerlaw8_awake.mono _)
      | (with_reducible exact gossamerlaw8_digits.mono _ _ _)
      | (with_reducible exact ip4_Ends.mono _ _)
      | (with_reducible exact ip4_Parse.mono _ _)
      | (with_reducible exact LeO.refl _)
      | (with_reducible exact LeO.none _)
      | (with_reducible refine LeO.ite ?_ ?_)
      | (with_reducible refine LeO.bind ?_ (fun _ => ?_))
      | exact ih0 _ _ _ _ _ _
      | exact ih1 _ _ _ _ _ _ _
      | exact ih2 _ _ _ _ _ _ _ _
      | exact ih3 _ _ _ _ _ _ _ _
      | exact gossamerlaw8_awake.mono _
      | exact gossamerlaw8_digits.mono _ _ _
      | exact ip4_Ends.mono _ _
      | exact ip4_Parse.mono _ _
      | exact LeO.none _
      | refine LeO.ite ?_ ?_
      | refine LeO.bind ?_ (fun _ => ?_)
    · intro y0 y1 y2 y3 y4 y5 y6
      unfold gossamerlaw8_FourForms.j1
      repeat' first
      | (with_reducible exact ih0 _ _ _ _ _ _)
      | (with_reducible exact ih1 _ _ _ _ _ _ _)
      | (with_reducible exact ih2 _ _ _ _ _ _ _ _)
      | (with_reducible exact ih3 _ _ _ _ _ _ _ _)
      | (with_reducible exact gossamerlaw8_awake.mono _)
      | (with_reducible exact gossamerlaw8_digits.mono _ _ _)
      | (with_reducible exact ip4_Ends.mono _ _)
      | (with_reducible exact ip4_Parse.mono _ _)
      | (with_reducible exact LeO.refl _)
      | (with_reducible exact LeO.none _)
      | (with_reducible refine LeO.ite ?_ ?_)
      | (with_reducible refine LeO.bind ?_ (fun _ => ?_))
      | exact ih0 _ _ _ _ _ _
      | exact ih1 _ _ _ _ _ _ _
      | exact ih2 _ _ _ _ _ _ _ _
      | exact ih3 _ _ _ _ _ _ _ _
      | exact gossamerlaw8_awake.mono _
      | exact gossamerlaw8_digits.mono _ _ _
      | exact ip4_Ends.mono _ _
      | exact ip4_Parse.mono _ _
      | exact LeO.none _
      | refine LeO.ite ?_ ?_
      | refine LeO.bind ?_ (fun _ => ?_)
    · intro y0 y1 y2 y3 y4 y5 y6 y7
      unfold gossamerlaw8_FourForms.j2
      repeat' first
      | (with_reducible exact ih0 _ _ _ _ _ _)
      | (with_reducible exact ih1 _ _ _ _ _ _ _)
      | (with_reducible exact ih2 _ _ _ _ _ _ _ _)
      | (with_reducible exact ih3 _ _ _ _ _ _ _ _)
      | (with_reducible exact gossamerlaw8_awake.mono _)
      | (with_reducible exact gossamerlaw8_digits.mono _ _ _)
      | (with_reducible exact ip4_Ends.mono _ _)
      | (with_reducible exact ip4_Parse.mono _ _)
      | (with_reducible exact LeO.refl _)
      | (with_reducible exact LeO.none _)
      | (with_reducible refine LeO.ite ?_ ?_)
      | (with_reducible refine LeO.bind ?_ (fun _ => ?_))
      | exact ih0 _ _ _ _ _ _
      | exact ih1 _ _ _ _ _ _ _
      | exact ih2 _ _ _ _ _ _ _ _
      | exact ih3 _ _ _ _ _ _ _ _
      | exact gossamerlaw8_awake.mono _
      | exact gossamerlaw8_digits.mono _ _ _
      | exact ip4_Ends.mono _ _
      | exact ip4_Parse.mono _ _
      | exact LeO.none _
      | refine LeO.ite ?_ ?_
      | refine LeO.bind ?_ (fun _ => ?_)
    · intro y0 y1 y2 y3 y4 y5 y6 y7
      unfold gossamerlaw8_FourForms.j3
      repeat' first
      | (with_reducible exact ih0 _ _ _ _ _ _)
      | (with_reducible exact ih1 _ _ _ _ _ _ _)
      | (with_reducible exact ih2 _ _ _ _ _ _ _ _)
      | (with_reducible exact ih3 _ _ _ _ _ _ _ _)
      | (with_reducible exact gossamerlaw8_awake.mono _)
      | (with_reducible exact gossamerlaw8_digits.mono _ _ _)
      | (with_reducible exact ip4_Ends.mono _ _)
      | (with_reducible exact ip4_Parse.mono _ _)
      | (with_reducible exact LeO.refl _)
      | (with_reducible exact LeO.none _)
      | (with_reducible refine LeO.ite ?_ ?_)
      | (with_reducible refine LeO.bind ?_ (fun _ => ?_))
      | exact ih0 _ _ _ _ _ _
      | exact ih1 _ _ _ _ _ _ _
      | exact ih2 _ _ _ _ _ _ _ _
      | exact ih3 _ _ _ _ _ _ _ _
      | exact gossamerlaw8_awake.mono _
      | exact gossamerlaw8_digits.mono _ _ _
      | exact ip4_Ends.mono _ _
      | exact ip4_Parse.mono _ _
      | exact LeO.none _
      | refine LeO.ite ?_ ?_
      | refine LeO.bind ?_ (fun _ => ?_)
theorem gossamerlaw8_FourForms.mono : ∀ a0 a1 a2 a3 k, LeO (gossamerlaw8_FourForms.f k a0 a1 a2 a3) (gossamerlaw8_FourForms.f (k + 1) a0 a1 a2 a3) := by
  intro a0 a1 a2 a3 k
  obtain ⟨ih0, ih1, ih2, ih3⟩ := gossamerlaw8_FourForms.mono_l k
  unfold gossamerlaw8_FourForms.f
  repeat' first
      | (with_reducible exact ih0 _ _ _ _ _ _)
      | (with_reducible exact ih1 _ _ _ _ _ _ _)
      | (with_reducible exact ih2 _ _ _ _ _ _ _ _)
      | (with_reducible exact ih3 _ _ _ _ _ _ _ _)
      | (with_reducible exact gossamerlaw8_awake.mono _)
      | (with_reducible exact gossamerlaw8_digits.mono _ _ _)
      | (with_reducible exact ip4_Ends.mono _ _)
      | (with_reducible exact ip4_Parse.mono _ _)
      | (with_reducible exact LeO.refl _)
      | (with_reducible exact LeO.none _)
      | (with_reducible refine LeO.ite ?_ ?_)
      | (with_reducible refine LeO.bind ?_ (fun _ => ?_))
      | exact ih0 _ _ _ _ _ _
      | exact ih1 _ _ _ _ _ _ _
      | exact ih2 _ _ _ _ _ _ _ _
      | exact ih3 _ _ _ _ _ _ _ _
      | exact gossamerlaw8_awake.mono _
      | exact gossamerlaw8_digits.mono _ _ _
      | exact ip4_Ends.mono _ _
      | exact ip4_Parse.mono _ _
      | exact LeO.none _
      | refine LeO.ite ?_ ?_
      | refine LeO.bind ?_ (fun _ => ?_)
set_option maxHeartbeats 8000000 in
set_option maxRecDepth 100000 in
theorem gossamerlaw8_FourForms.calls (k : Nat) (a0 : Int) (a1 : Int) (A2 : Option Addr) (c2 : Nat) (l2 : List Int) (a3 : Bool) (r : Bool) (w : World) (hr2 : Kd.C (Kd.int .i64) w A2 l2.length l2) (hc2 : l2.length ≤ c2) (hE : EnvOK w) (h : gossamerlaw8_FourForms.f k a0 a1 l2 a3 = some r) :
    Calls Tryd.prog 5 #[.int .u32 a0, .int .i64 a1, .slice A2 l2.length c2, .bool a3] w fun e w' => e = .returned (.bool r) ∧ Below w.heap.size w w' := by
  have HE := Aside0.mk hE
  clear hE
  have HR2 := Aside0.mk hr2
  have HC2 := Aside0.mk hc2
  clear hr2 hc2
  have HB := Aside0.mk (Below.refl w.heap.size w)
  have H : ((gossamerlaw0_Low.f a1 4).bind fun t194 => (gossamerlaw8_FourForms.l0 k a0 l2 a3 (wrap64 (1 + t194)) (⟨#[]⟩ : ByteArray) 0)) = some r := h
  clear h
  replace H := Option.bind_eq_some_iff.mp H
  obtain ⟨t194, A50, H⟩ := H
  replace H : (gossamerlaw8_FourForms.l0 k a0 l2 a3 (wrap64 (1 + t194)) (⟨#[]⟩ : ByteArray) 0) = some r := H
  have A5 := Aside0.mk A50
  clear A50
  have H' := Aside0.mk H
  clear H
  go_enter Tryd.func5, Tryd.ntmps5
  go_wp2_with (first | ((with_reducible refine gate_callee (f := 14) rfl ?_); refine goesL_ (some 17) rfl rfl Tryd.func14 (by kernel_rfl) rfl #[.int .i64 a1, .int .i64 4] rfl (by (try simp only [List.map_toArray, List.map_cons, List.map_nil]); first | done | rfl | (simp only [List.length_drop, List.length_take]; rfl)) ?_; (with_reducible refine (gossamerlaw0_Low.calls a1 4 t194 _ A5.out).mono ?_); rintro e w' ⟨rfl, ⟨nd, rfl⟩⟩; refine ⟨_, rfl, ?_⟩))
  go_loopg [10, 11] k (fun kq v10 v11 w' => ∃ (x10_1 : ByteArray) (x11_1 : Int), v10 = .string x10_1 ∧ v11 = .int .i64 x11_1 ∧ Aside0 (gossamerlaw8_FourForms.l0 kq a0 l2 a3 (wrap64 (1 + t194)) x10_1 x11_1 = some r) ∧ Aside0 (kq ≤ k) ∧ Aside0 (Below w.heap.size w w'))
  case atStart => exact ⟨((⟨#[]⟩ : ByteArray)), (0), (by first | rfl | (simp; done) | (simp [*]; done)), (by first | rfl | (simp; done) | (simp [*]; done)), H', ⟨Nat.le_refl _⟩, ⟨by repeat (first | (with_reducible first | exact HB.out | apply below_alloc | apply pw_below_drewN | apply below_drew1) | exact HB.out)⟩⟩
  case round =>
    clear H'
    try clear c1
    try clear c2
    try clear p2
    try clear c5
    obtain ⟨x10_1, x11_1, rfl, rfl, HA, HK1, HB⟩ := hrel
    cases gk with
    | zero => exact absurd HA.out (by simp [gossamerlaw8_FourForms.l0])
    | succ k1 =>
      have H := HA.out
      clear HA
      simp only [gossamerlaw8_FourForms.l0] at H
      by_cases c6 : x11_1 < (wrap64 (1 + t194))
      · rw [if_pos c6] at H
        have c6b0 : decide (x11_1 < (wrap64 (1 + t194))) = true := decide_eq_true c6
        clear c6
        obtain ⟨ji7, hji7⟩ : ∃ j_ : Int, (wrap64 (8 * (wrap64 (3 - x11_1)))) = j_ := ⟨_, rfl⟩
        replace H : (if 0 ≤ (ji7) then (if x11_1 = (wrap64 ((wrap64 (1 + t194)) - 1)) then (if 0 ≤ (wrap64 (8 * x11_1)) then (gossamerlaw8_FourForms.j1 k1 a0 l2 a3 (wrap64 (1 + t194)) x10_1 x11_1 (shr .u32 (shl .u32 a0 (wrap64 (8 * x11_1))) (wrap64 (8 * x11_1)))) else (none)) else (gossamerlaw8_FourForms.j1 k1 a0 l2 a3 (wrap64 (1 + t194)) x10_1 x11_1 (Go.bits .and .u32 (shr .u32 a0 (ji7)) 255))) else (none)) = some r := by first | (rw [hji7] at H; exact H) | (simp only [hji7] at H ⊢; exact H)
        have hji7w : (IntKind.i64.wrap (8 * (wrap64 (3 - x11_1)))) = ji7 := (i64_w _).trans hji7
        by_cases c8 : 0 ≤ (ji7)
        · rw [if_pos c8] at H
          have c8b0 := eq_true c8
          have c8b1 : decide (0 ≤ (ji7)) = true := decide_eq_true c8
          clear c8
          obtain ⟨ji9, hji9⟩ : ∃ j_ : Int, (shr .u32 a0 (ji7)) = j_ := ⟨_, rfl⟩
          replace H : (if x11_1 = (wrap64 ((wrap64 (1 + t194)) - 1)) then (if 0 ≤ (wrap64 (8 * x11_1)) then (gossamerlaw8_FourForms.j1 k1 a0 l2 a3 (wrap64 (1 + t194)) x10_1 x11_1 (shr .u32 (shl .u32 a0 (wrap64 (8 * x11_1))) (wrap64 (8 * x11_1)))) else (none)) else (gossamerlaw8_FourForms.j1 k1 a0 l2 a3 (wrap64 (1 + t194)) x10_1 x11_1 (Go.bits .and .u32 (ji9) 255))) = some r := by first | (rw [hji9] at H; exact H) | (simp only [hji9] at H ⊢; exact H)
          have hji9_ : (a0 / 2 ^ min (ji7).toNat 32) = ji9 := hji9
          have hji9z : (ji7) ≤ 32 → (a0 / 2 ^ (ji7).toNat) = ji9 := shr_small hji9
          have HC10 := Aside0.mk H
          clear H
          go_upto_if 33 with (fail)
          go_cut [12] (fun v12 wc => ∃ (kq : Nat) (x12_9 : Int), v12 = .int .u32 x12_9 ∧ Aside0 (gossamerlaw8_FourForms.j1 kq a0 l2 a3 (wrap64 (1 + t194)) x10_1 x11_1 x12_9 = some r) ∧ Aside0 (kq ≤ k1) ∧ Aside0 (Below w.heap.size w wc))
          case first =>
            have H := HC10.out
            clear HC10
            by_cases c11 : x11_1 = (wrap64 ((wrap64 (1 + t194)) - 1))
            · rw [if_pos c11] at H
              have c11b0 : (x11_1 == (wrap64 ((wrap64 (1 + t194)) - 1))) = true := beq_iff_eq.mpr c11
              have c11b1 : (x11_1 != (wrap64 ((wrap64 (1 + t194)) - 1))) = false := bne_eq_false_iff_eq.mpr c11
              clear c11
              (first | rw [c11b0] | (simp only [i64_w, i32_w]; rw [c11b0]) | skip)
              obtain ⟨ji12, hji12⟩ : ∃ j_ : Int, (wrap64 (8 * x11_1)) = j_ := ⟨_, rfl⟩
              replace H : (if 0 ≤ (ji12) then (gossamerlaw8_FourForms.j1 k1 a0 l2 a3 (wrap64 (1 + t194)) x10_1 x11_1 (shr .u32 (shl .u32 a0 (ji12)) (ji12))) else (none)) = some r := by first | (rw [hji12] at H; exact H) | (simp only [hji12] at H ⊢; exact H)
              have hji12w : (IntKind.i64.wrap (8 * x11_1)) = ji12 := (i64_w _).trans hji12
              by_cases c13 : 0 ≤ (ji12)
              · rw [if_pos c13] at H
                have c13b0 := eq_true c13
                have c13b1 : decide (0 ≤ (ji12)) = true := decide_eq_true c13
                clear c13
                obtain ⟨ji14, hji14⟩ : ∃ j_ : Int, (shl .u32 a0 (ji12)) = j_ := ⟨_, rfl⟩
                replace H : (gossamerlaw8_FourForms.j1 k1 a0 l2 a3 (wrap64 (1 + t194)) x10_1 x11_1 (shr .u32 (ji14) (ji12))) = some r := by first | (rw [hji14] at H; exact H) | (simp only [hji14] at H ⊢; exact H)
                have hji14_ : (IntKind.u32.wrap (a0 * 2 ^ min (ji12).toNat 32)) = ji14 := hji14
                have hji14z : (ji12) ≤ 32 → (IntKind.u32.wrap (a0 * 2 ^ (ji12).toNat)) = ji14 := shl_small hji14
                have c15b0 := eq_true (of_decide_eq_true (by first | (with_reducible assumption) | assumption) : 0 ≤ (ji12))
                obtain ⟨ji16, hji16⟩ : ∃ j_ : Int, (shr .u32 (ji14) (ji12)) = j_ := ⟨_, rfl⟩
                replace H : (gossamerlaw8_FourForms.j1 k1 a0 l2 a3 (wrap64 (1 + t194)) x10_1 x11_1 ji16) = some r := by first | (rw [hji16] at H; exact H) | (simp only [hji16] at H ⊢; exact H)
                have hji16_ : ((ji14) / 2 ^ min (ji12).toNat 32) = ji16 := hji16
                have hji16z : (ji12) ≤ 32 → ((ji14) / 2 ^ (ji12).toNat) = ji16 := shr_small hji16
                have H' := Aside0.mk H
                clear H
                go_wp2
                go_meet
                case rel => exact ⟨_, (ji16), (by first | rfl | (simp; done) | (simp only [← hji16] <;> (first | rfl | simp)) | (simp [*]; done)), H', ⟨by have := HK1.out; first | omega | exact Nat.le_refl _⟩, ⟨by repeat (first | (with_reducible first | exact HB.out | apply below_alloc | apply pw_below_drewN | apply below_drew1) | exact HB.out)⟩⟩
              · rw [if_neg c13] at H
                exact absurd H (by simp)
            · rw [if_neg c11] at H
              have c11b0 : (x11_1 == (wrap64 ((wrap64 (1 + t194)) - 1))) = false := beq_eq_false_iff_ne.mpr c11
              have c11b1 : (x11_1 != (wrap64 ((wrap64 (1 + t194)) - 1))) = true := bne_iff_ne.mpr c11
              (first | rw [c11b0] | (simp only [i64_w, i32_w]; rw [c11b0]) | skip)
              have H' := Aside0.mk H
              clear H
              go_wp2
              go_meet
              case rel => exact ⟨_, (Go.bits .and .u32 (ji9) 255), (by first | rfl | (simp; done) | (simp only [← hji9] <;> (first | rfl | simp)) | (simp [*]; done)), H', ⟨by have := HK1.out; first | omega | exact Nat.le_refl _⟩, ⟨by repeat (first | (with_reducible first | exact HB.out | apply below_alloc | apply pw_below_drewN | apply below_drew1) | exact HB.out)⟩⟩
          case rest =>
            clear HC10
            try clear c1
            try clear c2
            try clear p2
            try clear c5
            try clear c6
            try clear c6b0
            try clear p6
            try clear c8
            try clear c8b0
            try clear c8b1
            try clear c11
            try clear c11b0
            try clear c11b1
            try clear c13
            try clear c13b0
            try clear c13b1
            try clear c14
            try clear c15
            try clear c15b0
            try clear p2
            obtain ⟨kq, x12_9, rfl, HA, HJ9, HB⟩ := hcut
            cases kq with
            | zero => exact absurd HA.out (by simp [gossamerlaw8_FourForms.j1])
            | succ kj9 =>
              have H := HA.out
              clear HA
              simp only [gossamerlaw8_FourForms.j1] at H
              have HC17 := Aside0.mk H
              clear H
              go_upto_if 44 with (fail)
              go_cut [13] (fun v13 wc => ∃ (kq : Nat) (x13_16 : Int), v13 = .int .i64 x13_16 ∧ Aside0 (gossamerlaw8_FourForms.j2 kq a0 l2 a3 (wrap64 (1 + t194)) x10_1 x11_1 x12_9 x13_16 = some r) ∧ Aside0 (kq ≤ kj9) ∧ Aside0 (Below w.heap.size w wc))
              case first =>
                have H := HC17.out
                clear HC17
                by_cases c18 : x11_1 < (l2.length : Int)
                · rw [if_pos c18] at H
                  have c18b0 : decide (x11_1 < (l2.length : Int)) = true := decide_eq_true c18
                  clear c18
                  (first | rw [c18b0] | (simp only [i64_w, i32_w]; rw [c18b0]) | skip)
                  by_cases c19 : 0 ≤ x11_1
                  · rw [if_pos c19] at H
                    have c19b0 : decide (0 ≤ x11_1) = true := decide_eq_true c19
                    clear c19
                    replace H := Option.bind_eq_some_iff.mp H
                    obtain ⟨t196, A200, H⟩ := H
                    replace H : (gossamerlaw8_FourForms.j2 kj9 a0 l2 a3 (wrap64 (1 + t194)) x10_1 x11_1 x12_9 t196) = some r := H
                    have A20 := Aside0.mk A200
                    clear A200
                    have H' := Aside0.mk H
                    clear H
                    have p195 : 0 ≤ (x11_1 : Int) := of_decide_eq_true (by first | (with_reducible assumption) | assumption)
                    have q195 : x11_1 < (l2.length : Int) := of_decide_eq_true (by first | (with_reducible assumption) | assumption)
                    obtain ⟨ad195, e195, hx195_0⟩ := Kd.at_int HR2.out x11_1 p195 q195
                    cases e195
                    replace hx195_0 := (HB.out.cell (World.block_lt_of_cell? w _ hx195_0)).trans hx195_0
                    replace p195 := eq_true p195
                    replace q195 := eq_true q195
                    go_wp2_with (first | ((with_reducible refine gate_callee (f := 14) rfl ?_); refine goesL_ (some 49) rfl rfl Tryd.func14 (by kernel_rfl) rfl #[.int .i64 (rd l2 x11_1), .int .i64 4] rfl (by (try simp only [List.map_toArray, List.map_cons, List.map_nil]); first | done | rfl | (simp only [List.length_drop, List.length_take]; rfl)) ?_; (with_reducible refine (gossamerlaw0_Low.calls (rd l2 x11_1) 4 t196 _ A20.out).mono ?_); rintro e w' ⟨rfl, ⟨nd, rfl⟩⟩; refine ⟨_, rfl, ?_⟩))
                    go_meet
                    case rel => exact ⟨_, (t196), (by first | rfl | (simp; done) | (simp [*]; done)), H', ⟨by have := HK1.out; have := HJ9.out; first | omega | exact Nat.le_refl _⟩, ⟨by repeat (first | (with_reducible first | exact HB.out | apply below_alloc | apply pw_below_drewN | apply below_drew1) | exact HB.out)⟩⟩
                  · rw [if_neg c19] at H
                    exact absurd H (by simp)
                · rw [if_neg c18] at H
                  have c18b0 : decide (x11_1 < (l2.length : Int)) = false := decide_eq_false c18
                  clear c18
                  (first | rw [c18b0] | (simp only [i64_w, i32_w]; rw [c18b0]) | skip)
                  have H' := Aside0.mk H
                  clear H
                  go_wp2
                  go_meet
                  case rel => exact ⟨_, (0), (by first | rfl | (simp; done) | (simp [*]; done)), H', ⟨by have := HK1.out; have := HJ9.out; first | omega | exact Nat.le_refl _⟩, ⟨by repeat (first | (with_reducible first | exact HB.out | apply below_alloc | apply pw_below_drewN | apply below_drew1) | exact HB.out)⟩⟩
              case rest =>
                clear HC17
                try clear c1
                try clear p1
                try clear q1
                try clear hx1
                try clear c2
                try clear p2
                try clear c5
                try clear c6
                try clear c6b0
                try clear p6
                try clear c8
                try clear c8b0
                try clear c8b1
                try clear c11
                try clear c11b0
                try clear c11b1
                try clear c13
                try clear c13b0
                try clear c13b1
                try clear c14
                try clear c15
                try clear c15b0
                try clear c18
                try clear c18b0
                try clear c19
                try clear c19b0
                try clear p19
                try clear q19
                try clear hx19
                try clear hx195_0
                try clear p195
                try clear p2
                try clear p6
                try clear q195
                obtain ⟨kq, x13_16, rfl, HA, HJ16, HB⟩ := hcut
                cases kq with
                | zero => exact absurd HA.out (by simp [gossamerlaw8_FourForms.j2])
                | succ kj16 =>
                  have H := HA.out
                  clear HA
                  simp only [gossamerlaw8_FourForms.j2] at H
                  have HC21 := Aside0.mk H
                  clear H
                  go_upto_if 51 with (fail)
                  go_cut [10] (fun v10 wc => ∃ (kq : Nat) (x10_20 : ByteArray), v10 = .string x10_20 ∧ Aside0 (gossamerlaw8_FourForms.j3 kq a0 l2 a3 (wrap64 (1 + t194)) x10_20 x11_1 x12_9 x13_16 = some r) ∧ Aside0 (kq ≤ kj16) ∧ Aside0 (Below w.heap.size w wc))
                  case first =>
                    have H := HC21.out
                    clear HC21
                    by_cases c22 : x11_1 > 0
                    · rw [if_pos c22] at H
                      have c22b0 : decide (0 < x11_1) = true := decide_eq_true c22
                      clear c22
                      (first | rw [c22b0] | (simp only [i64_w, i32_w]; rw [c22b0]) | skip)
                      by_cases c23 : x10_1.size + 1 ≤ 9223372036854775807
                      · rw [if_pos c23] at H
                        have c23b0 := eq_true c23
                        have c23b1 : decide (x10_1.size + 1 ≤ 9223372036854775807) = true := decide_eq_true c23
                        try have c23b2 : (9223372036854775807 < x10_1.size + 1) = False := eq_false (Nat.not_lt.2 c23)
                        have H' := Aside0.mk H
                        clear H
                        go_wp2
                        go_meet
                        case rel => exact ⟨_, (x10_1 ++ (⟨#[46]⟩ : ByteArray)), (by first | rfl | (simp; done) | (simp [*]; done)), H', ⟨by have := HK1.out; have := HJ9.out; have := HJ16.out; first | omega | exact Nat.le_refl _⟩, ⟨by repeat (first | (with_reducible first | exact HB.out | apply below_alloc | apply pw_below_drewN | apply below_drew1) | exact HB.out)⟩⟩
                      · rw [if_neg c23] at H
                        exact absurd H (by simp)
                    · rw [if_neg c22] at H
                      have c22b0 : decide (0 < x11_1) = false := decide_eq_false c22
                      clear c22
                      (first | rw [c22b0] | (simp only [i64_w, i32_w]; rw [c22b0]) | skip)
                      have H' := Aside0.mk H
                      clear H
                      go_wp2
                      go_meet
                      case rel => exact ⟨_, (x10_1), (by first | rfl | (simp; done) | (simp [*]; done)), H', ⟨by have := HK1.out; have := HJ9.out; have := HJ16.out; first | omega | exact Nat.le_refl _⟩, ⟨by repeat (first | (with_reducible first | exact HB.out | apply below_alloc | apply pw_below_drewN | apply below_drew1) | exact HB.out)⟩⟩
                  case rest =>
                    clear HC21
                    try clear c1
                    try clear p1
                    try clear q1
                    try clear hx1
                    try clear c2
                    try clear p2
                    try clear c5
                    try clear c6
                    try clear c6b0
                    try clear p6
                    try clear c8
                    try clear c8b0
                    try clear c8b1
                    try clear c11
                    try clear c11b0
                    try clear c11b1
                    try clear c13
                    try clear c13b0
                    try clear c13b1
                    try clear c14
                    try clear c15
                    try clear c15b0
                    try clear c18
                    try clear c18b0
                    try clear c19
                    try clear c19b0
                    try clear p19
                    try clear q19
                    try clear hx19
                    try clear c22
                    try clear c22b0
                    try clear c23
                    try clear c23b0
                    try clear c23b1
                    try clear c23b2
                    try clear hx195_0
                    try clear p1
                    try clear p19
                    try clear p195
                    try clear p2
                    try clear p6
                    try clear q1
                    try clear q19
                    try clear q195
                    obtain ⟨kq, x10_20, rfl, HA, HJ20, HB⟩ := hcut
                    cases kq with
                    | zero => exact absurd HA.out (by simp [gossamerlaw8_FourForms.j3])
                    | succ kj20 =>
                      have H := HA.out
                      clear HA
                      simp only [gossamerlaw8_FourForms.j3] at H
                      by_cases c24 : x13_16 = 0
                      · rw [if_pos c24] at H
                        have c24b0 : (x13_16 == 0) = true := beq_iff_eq.mpr c24
                        have c24b1 : (x13_16 != 0) = false := bne_eq_false_iff_eq.mpr c24
                        clear c24
                        replace H := Option.bind_eq_some_iff.mp H
                        obtain ⟨t197, A250, H⟩ := H
                        replace H : (if x10_20.size + t197.size ≤ 9223372036854775807 then (gossamerlaw8_FourForms.l0 kj20 a0 l2 a3 (wrap64 (1 + t194)) (x10_20 ++ t197) (wrap64 (x11_1 + 1))) else (none)) = some r := H
                        have A25 := Aside0.mk A250
                        clear A250
                        by_cases c26 : x10_20.size + t197.size ≤ 9223372036854775807
                        · rw [if_pos c26] at H
                          have c26b0 := eq_true c26
                          have c26b1 : decide (x10_20.size + t197.size ≤ 9223372036854775807) = true := decide_eq_true c26
                          try have c26b2 : (9223372036854775807 < x10_20.size + t197.size) = False := eq_false (Nat.not_lt.2 c26)
                          have H' := Aside0.mk H
                          clear H
                          go_wp2_with (first | ((with_reducible refine gate_callee (f := 15) rfl ?_); refine goesL_ (some 64) rfl rfl Tryd.func15 (by kernel_rfl) rfl #[.int .u32 x12_9, .int .u32 10] rfl (by (try simp only [List.map_toArray, List.map_cons, List.map_nil]); first | done | rfl | (simp only [List.length_drop, List.length_take]; rfl)) ?_; (with_reducible refine (gossamerlaw8_digits.calls kj20 x12_9 10 t197 _ A25.out).mono ?_); rintro e w27 ⟨rfl, hb⟩; refine ⟨_, rfl, ?_⟩; have n0_ := Aside0.mk (below_step (by repeat (first | (with_reducible first | exact HB.out | apply below_alloc | apply pw_below_drewN | apply below_drew1) | exact HB.out)) hb); clear HB; have HB := n0_; clear n0_; (try clear hb); (try clear hb2); (try clear hk); (try clear hi)))
                          go_roundg kj20
                          case measure => have := HK1.out; have := HJ9.out; have := HJ16.out; have := HJ20.out; omega
                          case rel => exact ⟨(x10_20 ++ t197), (wrap64 (x11_1 + 1)), (by first | rfl | (simp; done) | (simp [*]; done)), (by first | rfl | (simp; done) | (simp [*]; done)), H', ⟨by have := HK1.out; have := HJ9.out; have := HJ16.out; have := HJ20.out; omega⟩, ⟨by repeat (first | (with_reducible first | exact HB.out | apply below_alloc | apply pw_below_drewN | apply below_drew1) | exact HB.out)⟩⟩
                        · rw [if_neg c26] at H
                          exact absurd H (by simp)
                      · rw [if_neg c24] at H
                        have c24b0 : (x13_16 == 0) = false := beq_eq_false_iff_ne.mpr c24
                        have c24b1 : (x13_16 != 0) = true := bne_iff_ne.mpr c24
                        by_cases c28 : x13_16 = 1
                        · rw [if_pos c28] at H
                          have c28b0 : (x13_16 == 1) = true := beq_iff_eq.mpr c28
                          have c28b1 : (x13_16 != 1) = false := bne_eq_false_iff_eq.mpr c28
                          clear c28
                          by_cases c29 : x10_20.size + 1 ≤ 9223372036854775807
                          · rw [if_pos c29] at H
                            have c29b0 := eq_true c29
                            have c29b1 : decide (x10_20.size + 1 ≤ 9223372036854775807) = true := decide_eq_true c29
                            try have c29b2 : (9223372036854775807 < x10_20.size + 1) = False := eq_false (Nat.not_lt.2 c29)
                            replace H := Option.bind_eq_some_iff.mp H
                            obtain ⟨t198, A300, H⟩ := H
                            replace H : (if (x10_20 ++ (⟨#[48]⟩ : ByteArray)).size + t198.size ≤ 9223372036854775807 then (gossamerlaw8_FourForms.l0 kj20 a0 l2 a3 (wrap64 (1 + t194)) ((x10_20 ++ (⟨#[48]⟩ : ByteArray)) ++ t198) (wrap64 (x11_1 + 1))) else (none)) = some r := H
                            have A30 := Aside0.mk A300
                            clear A300
                            by_cases c31 : (x10_20 ++ (⟨#[48]⟩ : ByteArray)).size + t198.size ≤ 9223372036854775807
                            · rw [if_pos c31] at H
                              have c31b0 := eq_true c31
                              have c31b0v := c31b0
                              (try simp only [ByteArray.size_append, Int.natCast_add, show ByteArray.size ⟨#[48]⟩ = 1 from rfl, Int.cast_ofNat_Int] at c31b0v)
                              have c31b1 : decide ((x10_20 ++ (⟨#[48]⟩ : ByteArray)).size + t198.size ≤ 9223372036854775807) = true := decide_eq_true c31
                              (try have c31b1v := c31b1)
                              (try simp only [ByteArray.size_append, Int.natCast_add, show ByteArray.size ⟨#[48]⟩ = 1 from rfl, Int.cast_ofNat_Int] at c31b1v)
                              try have c31b2 : (9223372036854775807 < (x10_20 ++ (⟨#[48]⟩ : ByteArray)).size + t198.size) = False := eq_false (Nat.not_lt.2 c31)
                              (try have c31b2v := c31b2)
                              (try simp only [ByteArray.size_append, Int.natCast_add, show ByteArray.size ⟨#[48]⟩ = 1 from rfl, Int.cast_ofNat_Int] at c31b2v)
                              have H' := Aside0.mk H
                              clear H
                              go_wp2_with (first | ((with_reducible refine gate_callee (f := 15) rfl ?_); refine goesL_ (some 71) rfl rfl Tryd.func15 (by kernel_rfl) rfl #[.int .u32 x12_9, .int .u32 8] rfl (by (try simp only [List.map_toArray, List.map_cons, List.map_nil]); first | done | rfl | (simp only [List.length_drop, List.length_take]; rfl)) ?_; (with_reducible refine (gossamerlaw8_digits.calls kj20 x12_9 8 t198 _ A30.out).mono ?_); rintro e w32 ⟨rfl, hb⟩; refine ⟨_, rfl, ?_⟩; have n0_ := Aside0.mk (below_step (by repeat (first | (with_reducible first | exact HB.out | apply below_alloc | apply pw_below_drewN | apply below_drew1) | exact HB.out)) hb); clear HB; have HB := n0_; clear n0_; (try clear hb); (try clear hb2); (try clear hk); (try clear hi)))
                              go_roundg kj20
                              case measure => have := HK1.out; have := HJ9.out; have := HJ16.out; have := HJ20.out; omega
                              case rel => exact ⟨((x10_20 ++ (⟨#[48]⟩ : ByteArray)) ++ t198), (wrap64 (x11_1 + 1)), (by first | rfl | (simp; done) | (simp [*]; done)), (by first | rfl | (simp; done) | (simp [*]; done)), H', ⟨by have := HK1.out; have := HJ9.out; have := HJ16.out; have := HJ20.out; omega⟩, ⟨by repeat (first | (with_reducible first | exact HB.out | apply below_alloc | apply pw_below_drewN | apply below_drew1) | exact HB.out)⟩⟩
                            · rw [if_neg c31] at H
                              exact absurd H (by simp)
                          · rw [if_neg c29] at H
                            exact absurd H (by simp)
                        · rw [if_neg c28] at H
                          have c28b0 : (x13_16 == 1) = false := beq_eq_false_iff_ne.mpr c28
                          have c28b1 : (x13_16 != 1) = true := bne_iff_ne.mpr c28
                          by_cases c33 : x13_16 = 2
                          · rw [if_pos c33] at H
                            have c33b0 : (x13_16 == 2) = true := beq_iff_eq.mpr c33
                            have c33b1 : (x13_16 != 2) = false := bne_eq_false_iff_eq.mpr c33
                            clear c33
                            by_cases c34 : x10_20.size + 2 ≤ 9223372036854775807
                            · rw [if_pos c34] at H
                              have c34b0 := eq_true c34
                              have c34b1 : decide (x10_20.size + 2 ≤ 9223372036854775807) = true := decide_eq_true c34
                              try have c34b2 : (9223372036854775807 < x10_20.size + 2) = False := eq_false (Nat.not_lt.2 c34)
                              replace H := Option.bind_eq_some_iff.mp H
                              obtain ⟨t199, A350, H⟩ := H
                              replace H : (if (x10_20 ++ (⟨#[48, 120]⟩ : ByteArray)).size + t199.size ≤ 9223372036854775807 then (gossamerlaw8_FourForms.l0 kj20 a0 l2 a3 (wrap64 (1 + t194)) ((x10_20 ++ (⟨#[48, 120]⟩ : ByteArray)) ++ t199) (wrap64 (x11_1 + 1))) else (none)) = some r := H
                              have A35 := Aside0.mk A350
                              clear A350
                              by_cases c36 : (x10_20 ++ (⟨#[48, 120]⟩ : ByteArray)).size + t199.size ≤ 9223372036854775807
                              · rw [if_pos c36] at H
                                have c36b0 := eq_true c36
                                have c36b0v := c36b0
                                (try simp only [ByteArray.size_append, Int.natCast_add, show ByteArray.size ⟨#[48, 120]⟩ = 2 from rfl, Int.cast_ofNat_Int] at c36b0v)
                                have c36b1 : decide ((x10_20 ++ (⟨#[48, 120]⟩ : ByteArray)).size + t199.size ≤ 9223372036854775807) = true := decide_eq_true c36
                                (try have c36b1v := c36b1)
                                (try simp only [ByteArray.size_append, Int.natCast_add, show ByteArray.size ⟨#[48, 120]⟩ = 2 from rfl, Int.cast_ofNat_Int] at c36b1v)
                                try have c36b2 : (9223372036854775807 < (x10_20 ++ (⟨#[48, 120]⟩ : ByteArray)).size + t199.size) = False := eq_false (Nat.not_lt.2 c36)
                                (try have c36b2v := c36b2)
                                (try simp only [ByteArray.size_append, Int.natCast_add, show ByteArray.size ⟨#[48, 120]⟩ = 2 from rfl, Int.cast_ofNat_Int] at c36b2v)
                                have H' := Aside0.mk H
                                clear H
                                go_wp2_with (first | ((with_reducible refine gate_callee (f := 15) rfl ?_); refine goesL_ (some 78) rfl rfl Tryd.func15 (by kernel_rfl) rfl #[.int .u32 x12_9, .int .u32 16] rfl (by (try simp only [List.map_toArray, List.map_cons, List.map_nil]); first | done | rfl | (simp only [List.length_drop, List.length_take]; rfl)) ?_; (with_reducible refine (gossamerlaw8_digits.calls kj20 x12_9 16 t199 _ A35.out).mono ?_); rintro e w37 ⟨rfl, hb⟩; refine ⟨_, rfl, ?_⟩; have n0_ := Aside0.mk (below_step (by repeat (first | (with_reducible first | exact HB.out | apply below_alloc | apply pw_below_drewN | apply below_drew1) | exact HB.out)) hb); clear HB; have HB := n0_; clear n0_; (try clear hb); (try clear hb2); (try clear hk); (try clear hi)))
                                go_roundg kj20
                                case measure => have := HK1.out; have := HJ9.out; have := HJ16.out; have := HJ20.out; omega
                                case rel => exact ⟨((x10_20 ++ (⟨#[48, 120]⟩ : ByteArray)) ++ t199), (wrap64 (x11_1 + 1)), (by first | rfl | (simp; done) | (simp [*]; done)), (by first | rfl | (simp; done) | (simp [*]; done)), H', ⟨by have := HK1.out; have := HJ9.out; have := HJ16.out; have := HJ20.out; omega⟩, ⟨by repeat (first | (with_reducible first | exact HB.out | apply below_alloc | apply pw_below_drewN | apply below_drew1) | exact HB.out)⟩⟩
                              · rw [if_neg c36] at H
                                exact absurd H (by simp)
                            · rw [if_neg c34] at H
                              exact absurd H (by simp)
                          · rw [if_neg c33] at H
                            have c33b0 : (x13_16 == 2) = false := beq_eq_false_iff_ne.mpr c33
                            have c33b1 : (x13_16 != 2) = true := bne_iff_ne.mpr c33
                            by_cases c38 : x10_20.size + 5 ≤ 9223372036854775807
                            · rw [if_pos c38] at H
                              have c38b0 := eq_true c38
                              have c38b1 : decide (x10_20.size + 5 ≤ 9223372036854775807) = true := decide_eq_true c38
                              try have c38b2 : (9223372036854775807 < x10_20.size + 5) = False := eq_false (Nat.not_lt.2 c38)
                              replace H := Option.bind_eq_some_iff.mp H
                              obtain ⟨t200, A390, H⟩ := H
                              replace H : (if (x10_20 ++ (⟨#[48, 88, 48, 48, 48]⟩ : ByteArray)).size + t200.size ≤ 9223372036854775807 then (gossamerlaw8_FourForms.l0 kj20 a0 l2 a3 (wrap64 (1 + t194)) ((x10_20 ++ (⟨#[48, 88, 48, 48, 48]⟩ : ByteArray)) ++ t200) (wrap64 (x11_1 + 1))) else (none)) = some r := H
                              have A39 := Aside0.mk A390
                              clear A390
                              by_cases c40 : (x10_20 ++ (⟨#[48, 88, 48, 48, 48]⟩ : ByteArray)).size + t200.size ≤ 9223372036854775807
                              · rw [if_pos c40] at H
                                have c40b0 := eq_true c40
                                have c40b0v := c40b0
                                (try simp only [ByteArray.size_append, Int.natCast_add, show ByteArray.size ⟨#[48, 88, 48, 48, 48]⟩ = 5 from rfl, Int.cast_ofNat_Int] at c40b0v)
                                have c40b1 : decide ((x10_20 ++ (⟨#[48, 88, 48, 48, 48]⟩ : ByteArray)).size + t200.size ≤ 9223372036854775807) = true := decide_eq_true c40
                                (try have c40b1v := c40b1)
                                (try simp only [ByteArray.size_append, Int.natCast_add, show ByteArray.size ⟨#[48, 88, 48, 48, 48]⟩ = 5 from rfl, Int.cast_ofNat_Int] at c40b1v)
                                try have c40b2 : (9223372036854775807 < (x10_20 ++ (⟨#[48, 88, 48, 48, 48]⟩ : ByteArray)).size + t200.size) = False := eq_false (Nat.not_lt.2 c40)
                                (try have c40b2v := c40b2)
                                (try simp only [ByteArray.size_append, Int.natCast_add, show ByteArray.size ⟨#[48, 88, 48, 48, 48]⟩ = 5 from rfl, Int.cast_ofNat_Int] at c40b2v)
                                have H' := Aside0.mk H
                                clear H
                                go_wp2_with (first | ((with_reducible refine gate_callee (f := 15) rfl ?_); refine goesL_ (some 58) rfl rfl Tryd.func15 (by kernel_rfl) rfl #[.int .u32 x12_9, .int .u32 16] rfl (by (try simp only [List.map_toArray, List.map_cons, List.map_nil]); first | done | rfl | (simp only [List.length_drop, List.length_take]; rfl)) ?_; (with_reducible refine (gossamerlaw8_digits.calls kj20 x12_9 16 t200 _ A39.out).mono ?_); rintro e w41 ⟨rfl, hb⟩; refine ⟨_, rfl, ?_⟩; have n0_ := Aside0.mk (below_step (by repeat (first | (with_reducible first | exact HB.out | apply below_alloc | apply pw_below_drewN | apply below_drew1) | exact HB.out)) hb); clear HB; have HB := n0_; clear n0_; (try clear hb); (try clear hb2); (try clear hk); (try clear hi)))
                                go_roundg kj20
                                case measure => have := HK1.out; have := HJ9.out; have := HJ16.out; have := HJ20.out; omega
                                case rel => exact ⟨((x10_20 ++ (⟨#[48, 88, 48, 48, 48]⟩ : ByteArray)) ++ t200), (wrap64 (x11_1 + 1)), (by first | rfl | (simp; done) | (simp [*]; done)), (by first | rfl | (simp; done) | (simp [*]; done)), H', ⟨by have := HK1.out; have := HJ9.out; have := HJ16.out; have := HJ20.out; omega⟩, ⟨by repeat (first | (with_reducible first | exact HB.out | apply below_alloc | apply pw_below_drewN | apply below_drew1) | exact HB.out)⟩⟩
                              · rw [if_neg c40] at H
                                exact absurd H (by simp)
                            · rw [if_neg c38] at H
                              exact absurd H (by simp)
        · rw [if_neg c8] at H
          exact absurd H (by simp)
      · rw [if_neg c6] at H
        have c6b0 : decide (x11_1 < (wrap64 (1 + t194))) = false := decide_eq_false c6
        clear c6
        by_cases c42 : a3 = true
        · subst c42
          have H1 : (if x10_1.size + 1 ≤ 9223372036854775807 then ((ip4_Parse.f k1 (x10_1 ++ (⟨#[46]⟩ : ByteArray))).bind fun bt201 => (if bt201.2 = true then (if bt201.1 = a0 then ((ip4_Ends.f k1 (x10_1 ++ (⟨#[46]⟩ : ByteArray))).bind fun t203 => (if t203 = true then ((gossamerlaw8_awake.f k1).bind fun t204 => (some t204)) else (some false))) else (some false)) else (some false))) else (none)) = some r := by rw [if_pos rfl] at H; exact H
          clear H
          have H := H1
          clear H1
          by_cases c43 : x10_1.size + 1 ≤ 9223372036854775807
          · rw [if_pos c43] at H
            have c43b0 := eq_true c43
            have c43b1 : decide (x10_1.size + 1 ≤ 9223372036854775807) = true := decide_eq_true c43
            try have c43b2 : (9223372036854775807 < x10_1.size + 1) = False := eq_false (Nat.not_lt.2 c43)
            replace H := Option.bind_eq_some_iff.mp H
            obtain ⟨⟨t201, t202⟩, A440, H⟩ := H
            replace H : (if t202 = true then (if t201 = a0 then ((ip4_Ends.f k1 (x10_1 ++ (⟨#[46]⟩ : ByteArray))).bind fun t203 => (if t203 = true then ((gossamerlaw8_awake.f k1).bind fun t204 => (some t204)) else (some false))) else (some false)) else (some false)) = some r := H
            have A44 := Aside0.mk A440
            clear A440
            by_cases c45 : t202 = true
            · subst c45
              have H1 : (if t201 = a0 then ((ip4_Ends.f k1 (x10_1 ++ (⟨#[46]⟩ : ByteArray))).bind fun t203 => (if t203 = true then ((gossamerlaw8_awake.f k1).bind fun t204 => (some t204)) else (some false))) else (some false)) = some r := by rw [if_pos rfl] at H; exact H
              clear H
              have H := H1
              clear H1
              by_cases c46 : t201 = a0
              · rw [if_pos c46] at H
                have c46b0 : (t201 == a0) = true := beq_iff_eq.mpr c46
                have c46b1 : (t201 != a0) = false := bne_eq_false_iff_eq.mpr c46
                clear c46
                replace H := Option.bind_eq_some_iff.mp H
                obtain ⟨t203, A470, H⟩ := H
                replace H : (if t203 = true then ((gossamerlaw8_awake.f k1).bind fun t204 => (some t204)) else (some false)) = some r := H
                have A47 := Aside0.mk A470
                clear A470
                by_cases c48 : t203 = true
                · subst c48
                  have H1 : ((gossamerlaw8_awake.f k1).bind fun t204 => (some t204)) = some r := by rw [if_pos rfl] at H; exact H
                  clear H
                  have H := H1
                  clear H1
                  replace H := Option.bind_eq_some_iff.mp H
                  obtain ⟨t204, A490, H⟩ := H
                  replace H : (some t204) = some r := H
                  have A49 := Aside0.mk A490
                  clear A490
                  obtain rfl := Option.some.inj H
                  go_wp2_with (first | ((with_reducible refine gate_callee (f := 8) rfl ?_); refine goesL_ (some 85) rfl rfl Tryd.func8 (by kernel_rfl) rfl #[.string (x10_1 ++ (⟨#[46]⟩ : ByteArray))] rfl (by (try simp only [List.map_toArray, List.map_cons, List.map_nil]); first | done | rfl | (simp only [List.length_drop, List.length_take]; rfl)) ?_; (with_reducible refine (ip4_Parse.calls k1 (x10_1 ++ (⟨#[46]⟩ : ByteArray)) t201 true _ ?side1 A44.out).mono ?_); (case side1 => exact EnvOK.step HE.out (by repeat (first | (with_reducible first | exact HB.out | apply below_alloc | apply pw_below_drewN | apply below_drew1) | exact HB.out))); rintro e w50 ⟨rfl, hb⟩; refine ⟨_, rfl, ?_⟩; have n0_ := Aside0.mk (below_step (by repeat (first | (with_reducible first | exact HB.out | apply below_alloc | apply pw_below_drewN | apply below_drew1) | exact HB.out)) hb); clear HB; have HB := n0_; clear n0_; (try clear hb); (try clear hb2); (try clear hk); (try clear hi)) | (go_at_call 10; (with_reducible refine (ip4_Ends.calls k1 (x10_1 ++ (⟨#[46]⟩ : ByteArray)) true _ ?side1 A47.out).mono ?_); (case side1 => exact EnvOK.step HE.out (by repeat (first | (with_reducible first | exact HB.out | apply below_alloc | apply pw_below_drewN | apply below_drew1) | exact HB.out))); rintro e w51 ⟨rfl, hb⟩; have n0_ := Aside0.mk (below_step (by repeat (first | (with_reducible first | exact HB.out | apply below_alloc | apply pw_below_drewN | apply below_drew1) | exact HB.out)) hb); clear HB; have HB := n0_; clear n0_; (try clear hb); (try clear hb2); (try clear hk); (try clear hi)) | (go_at_call 7; (with_reducible refine (gossamerlaw8_awake.calls k1  t204 _ ?side1 A49.out).mono ?_); (case side1 => exact EnvOK.step HE.out (by repeat (first | (with_reducible first | exact HB.out | apply below_alloc | apply pw_below_drewN | apply below_drew1) | exact HB.out))); rintro e w52 ⟨rfl, hb⟩; have n0_ := Aside0.mk (below_step (by repeat (first | (with_reducible first | exact HB.out | apply below_alloc | apply pw_below_drewN | apply below_drew1) | exact HB.out)) hb); clear HB; have HB := n0_; clear n0_; (try clear hb); (try clear hb2); (try clear hk); (try clear hi)))
                  go_ret
                  exact ⟨by first | rfl | (simp [errW_none, errW_some] <;> rfl) | (simp [*, errW_none, errW_some] <;> rfl), by repeat (first | (with_reducible first | exact HB.out | apply below_alloc | apply pw_below_drewN | apply below_drew1) | exact HB.out)⟩
                · replace c48 := Bool.eq_false_iff.mpr c48
                  subst c48
                  have H1 : (some false) = some r := by rw [if_neg (show ¬ (false = true) by decide)] at H; exact H
                  clear H
                  have H := H1
                  clear H1
                  obtain rfl := Option.some.inj H
                  go_wp2_with (first | ((with_reducible refine gate_callee (f := 8) rfl ?_); refine goesL_ (some 85) rfl rfl Tryd.func8 (by kernel_rfl) rfl #[.string (x10_1 ++ (⟨#[46]⟩ : ByteArray))] rfl (by (try simp only [List.map_toArray, List.map_cons, List.map_nil]); first | done | rfl | (simp only [List.length_drop, List.length_take]; rfl)) ?_; (with_reducible refine (ip4_Parse.calls k1 (x10_1 ++ (⟨#[46]⟩ : ByteArray)) t201 true _ ?side1 A44.out).mono ?_); (case side1 => exact EnvOK.step HE.out (by repeat (first | (with_reducible first | exact HB.out | apply below_alloc | apply pw_below_drewN | apply below_drew1) | exact HB.out))); rintro e w53 ⟨rfl, hb⟩; refine ⟨_, rfl, ?_⟩; have n0_ := Aside0.mk (below_step (by repeat (first | (with_reducible first | exact HB.out | apply below_alloc | apply pw_below_drewN | apply below_drew1) | exact HB.out)) hb); clear HB; have HB := n0_; clear n0_; (try clear hb); (try clear hb2); (try clear hk); (try clear hi)) | (go_at_call 10; (with_reducible refine (ip4_Ends.calls k1 (x10_1 ++ (⟨#[46]⟩ : ByteArray)) false _ ?side1 A47.out).mono ?_); (case side1 => exact EnvOK.step HE.out (by repeat (first | (with_reducible first | exact HB.out | apply below_alloc | apply pw_below_drewN | apply below_drew1) | exact HB.out))); rintro e w54 ⟨rfl, hb⟩; have n0_ := Aside0.mk (below_step (by repeat (first | (with_reducible first | exact HB.out | apply below_alloc | apply pw_below_drewN | apply below_drew1) | exact HB.out)) hb); clear HB; have HB := n0_; clear n0_; (try clear hb); (try clear hb2); (try clear hk); (try clear hi)))
                  go_ret
                  exact ⟨by first | rfl | (simp [errW_none, errW_some] <;> rfl) | (simp [*, errW_none, errW_some] <;> rfl), by repeat (first | (with_reducible first | exact HB.out | apply below_alloc | apply pw_below_drewN | apply below_drew1) | exact HB.out)⟩
              · rw [if_neg c46] at H
                have c46b0 : (t201 == a0) = false := beq_eq_false_iff_ne.mpr c46
                have c46b1 : (t201 != a0) = true := bne_iff_ne.mpr c46
                obtain rfl := Option.some.inj H
                go_wp2_with (first | ((with_reducible refine gate_callee (f := 8) rfl ?_); refine goesL_ (some 85) rfl rfl Tryd.func8 (by kernel_rfl) rfl #[.string (x10_1 ++ (⟨#[46]⟩ : ByteArray))] rfl (by (try simp only [List.map_toArray, List.map_cons, List.map_nil]); first | done | rfl | (simp only [List.length_drop, List.length_take]; rfl)) ?_; (with_reducible refine (ip4_Parse.calls k1 (x10_1 ++ (⟨#[46]⟩ : ByteArray)) t201 true _ ?side1 A44.out).mono ?_); (case side1 => exact EnvOK.step HE.out (by repeat (first | (with_reducible first | exact HB.out | apply below_alloc | apply pw_below_drewN | apply below_drew1) | exact HB.out))); rintro e w55 ⟨rfl, hb⟩; refine ⟨_, rfl, ?_⟩; have n0_ := Aside0.mk (below_step (by repeat (first | (with_reducible first | exact HB.out | apply below_alloc | apply pw_below_drewN | apply below_drew1) | exact HB.out)) hb); clear HB; have HB := n0_; clear n0_; (try clear hb); (try clear hb2); (try clear hk); (try clear hi)))
                go_ret
                exact ⟨by first | rfl | (simp [errW_none, errW_some] <;> rfl) | (simp [*, errW_none, errW_some] <;> rfl), by repeat (first | (with_reducible first | exact HB.out | apply below_alloc | apply pw_below_drewN | apply below_drew1) | exact HB.out)⟩
            · replace c45 := Bool.eq_false_iff.mpr c45
              subst c45
              have H1 : (some false) = some r := by rw [if_neg (show ¬ (false = true) by decide)] at H; exact H
              clear H
              have H := H1
              clear H1
              obtain rfl := Option.some.inj H
              go_wp2_with (first | ((with_reducible refine gate_callee (f := 8) rfl ?_); refine goesL_ (some 85) rfl rfl Tryd.func8 (by kernel_rfl) rfl #[.string (x10_1 ++ (⟨#[46]⟩ : ByteArray))] rfl (by (try simp only [List.map_toArray, List.map_cons, List.map_nil]); first | done | rfl | (simp only [List.length_drop, List.length_take]; rfl)) ?_; (with_reducible refine (ip4_Parse.calls k1 (x10_1 ++ (⟨#[46]⟩ : ByteArray)) t201 false _ ?side1 A44.out).mono ?_); (case side1 => exact EnvOK.step HE.out (by repeat (first | (with_reducible first | exact HB.out | apply below_alloc | apply pw_below_drewN | apply below_drew1) | exact HB.out))); rintro e w56 ⟨rfl, hb⟩; refine ⟨_, rfl, ?_⟩; have n0_ := Aside0.mk (below_step (by repeat (first | (with_reducible first | exact HB.out | apply below_alloc | apply pw_below_drewN | apply below_drew1) | exact HB.out)) hb); clear HB; have HB := n0_; clear n0_; (try clear hb); (try clear hb2); (try clear hk); (try clear hi)))
              go_ret
              exact ⟨by first | rfl | (simp [errW_none, errW_some] <;> rfl) | (simp [*, errW_none, errW_some] <;> rfl), by repeat (first | (with_reducible first | exact HB.out | apply below_alloc | apply pw_below_drewN | apply below_drew1) | exact HB.out)⟩
          · rw [if_neg c43] at H
            exact absurd H (by simp)
        · replace c42 := Bool.eq_false_iff.mpr c42
          subst c42
          have H1 : ((ip4_Parse.f k1 x10_1).bind fun bt205 => (if bt205.2 = true then (if bt205.1 = a0 then ((ip4_Ends.f k1 x10_1).bind fun t207 => (if t207 = true then ((gossamerlaw8_awake.f k1).bind fun t208 => (some t208)) else (some false))) else (some false)) else (some false))) = some r := by rw [if_neg (show ¬ (false = true) by decide)] at H; exact H
          clear H
          have H := H1
          clear H1
          replace H := Option.bind_eq_some_iff.mp H
          obtain ⟨⟨t205, t206⟩, A570, H⟩ := H
          replace H : (if t206 = true then (if t205 = a0 then ((ip4_Ends.f k1 x10_1).bind fun t207 => (if t207 = true then ((gossamerlaw8_awake.f k1).bind fun t208 => (some t208)) else (some false))) else (some false)) else (some false)) = some r := H
          have A57 := Aside0.mk A570
          clear A570
          by_cases c58 : t206 = true
          · subst c58
            have H1 : (if t205 = a0 then ((ip4_Ends.f k1 x10_1).bind fun t207 => (if t207 = true then ((gossamerlaw8_awake.f k1).bind fun t208 => (some t208)) else (some false))) else (some false)) = some r := by rw [if_pos rfl] at H; exact H
            clear H
            have H := H1
            clear H1
            by_cases c59 : t205 = a0
            · rw [if_pos c59] at H
              have c59b0 : (t205 == a0) = true := beq_iff_eq.mpr c59
              have c59b1 : (t205 != a0) = false := bne_eq_false_iff_eq.mpr c59
              clear c59
              replace H := Option.bind_eq_some_iff.mp H
              obtain ⟨t207, A600, H⟩ := H
              replace H : (if t207 = true then ((gossamerlaw8_awake.f k1).bind fun t208 => (some t208)) else (some false)) = some r := H
              have A60 := Aside0.mk A600
              clear A600
              by_cases c61 : t207 = true
              · subst c61
                have H1 : ((gossamerlaw8_awake.f k1).bind fun t208 => (some t208)) = some r := by rw [if_pos rfl] at H; exact H
                clear H
                have H := H1
                clear H1
                replace H := Option.bind_eq_some_iff.mp H
                obtain ⟨t208, A620, H⟩ := H
                replace H : (some t208) = some r := H
                have A62 := Aside0.mk A620
                clear A620
                obtain rfl := Option.some.inj H
                go_wp2_with (first | ((with_reducible refine gate_callee (f := 8) rfl ?_); refine goesL_ (some 85) rfl rfl Tryd.func8 (by kernel_rfl) rfl #[.string x10_1] rfl (by (try simp only [List.map_toArray, List.map_cons, List.map_nil]); first | done | rfl | (simp only [List.length_drop, List.length_take]; rfl)) ?_; (with_reducible refine (ip4_Parse.calls k1 x10_1 t205 true _ ?side1 A57.out).mono ?_); (case side1 => exact EnvOK.step HE.out (by repeat (first | (with_reducible first | exact HB.out | apply below_alloc | apply pw_below_drewN | apply below_drew1) | exact HB.out))); rintro e w63 ⟨rfl, hb⟩; refine ⟨_, rfl, ?_⟩; have n0_ := Aside0.mk (below_step (by repeat (first | (with_reducible first | exact HB.out | apply below_alloc | apply pw_below_drewN | apply below_drew1) | exact HB.out)) hb); clear HB; have HB := n0_; clear n0_; (try clear hb); (try clear hb2); (try clear hk); (try clear hi)) | (go_at_call 10; (with_reducible refine (ip4_Ends.calls k1 x10_1 true _ ?side1 A60.out).mono ?_); (case side1 => exact EnvOK.step HE.out (by repeat (first | (with_reducible first | exact HB.out | apply below_alloc | apply pw_below_drewN | apply below_drew1) | exact HB.out))); rintro e w64 ⟨rfl, hb⟩; have n0_ := Aside0.mk (below_step (by repeat (first | (with_reducible first | exact HB.out | apply below_alloc | apply pw_below_drewN | apply below_drew1) | exact HB.out)) hb); clear HB; have HB := n0_; clear n0_; (try clear hb); (try clear hb2); (try clear hk); (try clear hi)) | (go_at_call 7; (with_reducible refine (gossamerlaw8_awake.calls k1  t208 _ ?side1 A62.out).mono ?_); (case side1 => exact EnvOK.step HE.out (by repeat (first | (with_reducible first | exact HB.out | apply below_alloc | apply pw_below_drewN | apply below_drew1) | exact HB.out))); rintro e w65 ⟨rfl, hb⟩; have n0_ := Aside0.mk (below_step (by repeat (first | (with_reducible first | exact HB.out | apply below_alloc | apply pw_below_drewN | apply below_drew1) | exact HB.out)) hb); clear HB; have HB := n0_; clear n0_; (try clear hb); (try clear hb2); (try clear hk); (try clear hi)))
                go_ret
                exact ⟨by first | rfl | (simp [errW_none, errW_some] <;> rfl) | (simp [*, errW_none, errW_some] <;> rfl), by repeat (first | (with_reducible first | exact HB.out | apply below_alloc | apply pw_below_drewN | apply below_drew1) | exact HB.out)⟩
              · replace c61 := Bool.eq_false_iff.mpr c61
                subst c61
                have H1 : (some false) = some r := by rw [if_neg (show ¬ (false = true) by decide)] at H; exact H
                clear H
                have H := H1
                clear H1
                obtain rfl := Option.some.inj H
                go_wp2_with (first | ((with_reducible refine gate_callee (f := 8) rfl ?_); refine goesL_ (some 85) rfl rfl Tryd.func8 (by kernel_rfl) rfl #[.string x10_1] rfl (by (try simp only [List.map_toArray, List.map_cons, List.map_nil]); first | done | rfl | (simp only [List.length_drop, List.length_take]; rfl)) ?_; (with_reducible refine (ip4_Parse.calls k1 x10_1 t205 true _ ?side1 A57.out).mono ?_); (case side1 => exact EnvOK.step HE.out (by repeat (first | (with_reducible first | exact HB.out | apply below_alloc | apply pw_below_drewN | apply below_drew1) | exact HB.out))); rintro e w66 ⟨rfl, hb⟩; refine ⟨_, rfl, ?_⟩; have n0_ := Aside0.mk (below_step (by repeat (first | (with_reducible first | exact HB.out | apply below_alloc | apply pw_below_drewN | apply below_drew1) | exact HB.out)) hb); clear HB; have HB := n0_; clear n0_; (try clear hb); (try clear hb2); (try clear hk); (try clear hi)) | (go_at_call 10; (with_reducible refine (ip4_Ends.calls k1 x10_1 false _ ?side1 A60.out).mono ?_); (case side1 => exact EnvOK.step HE.out (by repeat (first | (with_reducible first | exact HB.out | apply below_alloc | apply pw_below_drewN | apply below_drew1) | exact HB.out))); rintro e w67 ⟨rfl, hb⟩; have n0_ := Aside0.mk (below_step (by repeat (first | (with_reducible first | exact HB.out | apply below_alloc | apply pw_below_drewN | apply below_drew1) | exact HB.out)) hb); clear HB; have HB := n0_; clear n0_; (try clear hb); (try clear hb2); (try clear hk); (try clear hi)))
                go_ret
                exact ⟨by first | rfl | (simp [errW_none, errW_some] <;> rfl) | (simp [*, errW_none, errW_some] <;> rfl), by repeat (first | (with_reducible first | exact HB.out | apply below_alloc | apply pw_below_drewN | apply below_drew1) | exact HB.out)⟩
            · rw [if_neg c59] at H
              have c59b0 : (t205 == a0) = false := beq_eq_false_iff_ne.mpr c59
              have c59b1 : (t205 != a0) = true := bne_iff_ne.mpr c59
              obtain rfl := Option.some.inj H
              go_wp2_with (first | ((with_reducible refine gate_callee (f := 8) rfl ?_); refine goesL_ (some 85) rfl rfl Tryd.func8 (by kernel_rfl) rfl #[.string x10_1] rfl (by (try simp only [List.map_toArray, List.map_cons, List.map_nil]); first | done | rfl | (simp only [List.length_drop, List.length_take]; rfl)) ?_; (with_reducible refine (ip4_Parse.calls k1 x10_1 t205 true _ ?side1 A57.out).mono ?_); (case side1 => exact EnvOK.step HE.out (by repeat (first | (with_reducible first | exact HB.out | apply below_alloc | apply pw_below_drewN | apply below_drew1) | exact HB.out))); rintro e w68 ⟨rfl, hb⟩; refine ⟨_, rfl, ?_⟩; have n0_ := Aside0.mk (below_step (by repeat (first | (with_reducible first | exact HB.out | apply below_alloc | apply pw_below_drewN | apply below_drew1) | exact HB.out)) hb); clear HB; have HB := n0_; clear n0_; (try clear hb); (try clear hb2); (try clear hk); (try clear hi)))
              go_ret
              exact ⟨by first | rfl | (simp [errW_none, errW_some] <;> rfl) | (simp [*, errW_none, errW_some] <;> rfl), by repeat (first | (with_reducible first | exact HB.out | apply below_alloc | apply pw_below_drewN | apply below_drew1) | exact HB.out)⟩
          · replace c58 := Bool.eq_false_iff.mpr c58
            subst c58
            have H1 : (some false) = some r := by rw [if_neg (show ¬ (false = true) by decide)] at H; exact H
            clear H
            have H := H1
            clear H1
            obtain rfl := Option.some.inj H
            go_wp2_with (first | ((with_reducible refine gate_callee (f := 8) rfl ?_); refine goesL_ (some 85) rfl rfl Tryd.func8 (by kernel_rfl) rfl #[.string x10_1] rfl (by (try simp only [List.map_toArray, List.map_cons, List.map_nil]); first | done | rfl | (simp only [List.length_drop, List.length_take]; rfl)) ?_; (with_reducible refine (ip4_Parse.calls k1 x10_1 t205 false _ ?side1 A57.out).mono ?_); (case side1 => exact EnvOK.step HE.out (by repeat (first | (with_reducible first | exact HB.out | apply below_alloc | apply pw_below_drewN | apply below_drew1) | exact HB.out))); rintro e w69 ⟨rfl, hb⟩; refine ⟨_, rfl, ?_⟩; have n0_ := Aside0.mk (below_step (by repeat (first | (with_reducible first | exact HB.out | apply below_alloc | apply pw_below_drewN | apply below_drew1) | exact HB.out)) hb); clear HB; have HB := n0_; clear n0_; (try clear hb); (try clear hb2); (try clear hk); (try clear hi)))
            go_ret
            exact ⟨by first | rfl | (simp [errW_none, errW_some] <;> rfl) | (simp [*, errW_none, errW_some] <;> rfl), by repeat (first | (with_reducible first | exact HB.out | apply below_alloc | apply pw_below_drewN | apply below_drew1) | exact HB.out)⟩

/-- THE ONE PURE STATEMENT of gossamerlaw8_FourForms: yours. -/
def gossamerlaw8_FourForms.Pure : Prop := ∀ (a0 : Int) (a1 : Int) (l2 : List Int) (a3 : Bool), (Lit.int .u32 a0).wf = true → (Lit.int .i64 a1).wf = true → l2.length ≤ maxLen → l2.length * 8 ≤ 140737488351232 → (∀ x ∈ l2, (Lit.int .i64 x).wf = true) → ∃ k, gossamerlaw8_FourForms.f k a0 a1 l2 a3 = some true
theorem gossamerlaw8_FourForms.walk (P : gossamerlaw8_FourForms.Pure) (a0 : Int) (a1 : Int) (A2 : Option Addr) (c2 : Nat) (l2 : List Int) (a3 : Bool) (w : World) (w0 : (Lit.int .u32 a0).wf = true) (w1 : (Lit.int .i64 a1).wf = true) (hr2 : Kd.C (Kd.int .i64) w A2 l2.length l2) (hc2 : l2.length ≤ c2) (hm2 : l2.length ≤ maxLen) (y2 : l2.length * 8 ≤ 140737488351232) (hw2 : ∀ x ∈ l2, (Lit.int .i64 x).wf = true) (hE : EnvOK w) :
    Calls Tryd.prog 5 #[.int .u32 a0, .int .i64 a1, .slice A2 l2.length c2, .bool a3] w fun e w' => e = .returned (.bool true) ∧ Below w.heap.size w w' := by
  obtain ⟨k, h⟩ := P a0 a1 l2 a3 w0 w1 hm2 y2 hw2
  refine (gossamerlaw8_FourForms.calls k a0 a1 _ _ l2 a3 true w hr2 hc2 hE h).mono ?_
  rintro e w' ⟨rfl, hd⟩
  exact ⟨rfl, hd⟩

end Go.Proofs.YtamjlbbjemihiaaDoor.PF
