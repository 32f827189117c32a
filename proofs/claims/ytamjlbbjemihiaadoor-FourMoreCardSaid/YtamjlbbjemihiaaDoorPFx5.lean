-- WRITTEN BY A PROGRAM OF THIS SESSION (wip/tools/xprint.py, over the kit's print.py).
import Derived.Test.YtamjlbbjemihiaaDoorPFx0
import Derived.Test.YtamjlbbjemihiaaDoorPFx3
import Derived.Test.YtamjlbbjemihiaaDoorPFx4
namespace Go.Proofs.YtamjlbbjemihiaaDoor.PF
open Go.RowKit Go.Proofs.YtamjlbbjemihiaaDoorW.PrintWords Go.Proofs.YtamjlbbjemihiaaDoorW.PrintLast Go.Proofs.YtamjlbbjemihiaaDoorW.PrintMore Go.Proofs.YtamjlbbjemihiaaDoorE
attribute [local go_sem] max2_int min2_int max_two min_two max_three min_three max_four min_four   -- for this text's walks alone
set_option linter.unusedVariables false
set_option linter.unusedSimpArgs false

/-! ### gossamerref8_Parse: function 9 -/
mutual
def gossamerref8_Parse.l0 : Nat → List ByteArray → Int → Int → Option (Int × Bool)
  | 0, _, _, _ => none
  | k + 1, x4, x5, x6 => if x6 < (x4.length : Int) then (if 0 ≤ x6 then ((gossamerref8_number.f k (rdOf ByteArray.empty x4 x6)).bind fun bt158 => (if x6 = (wrap64 ((x4.length : Int) - 1)) then (if 0 ≤ (wrap64 (8 * (wrap64 (5 - (x4.length : Int))))) then (gossamerref8_Parse.j1 k x4 x5 x6 bt158.1 bt158.2 (shl .i64 1 (wrap64 (8 * (wrap64 (5 - (x4.length : Int))))))) else (none)) else (gossamerref8_Parse.j1 k x4 x5 x6 bt158.1 bt158.2 256))) else (none)) else (some ((x5) % 4294967296, true))
def gossamerref8_Parse.j1 : Nat → List ByteArray → Int → Int → Int → Bool → Int → Option (Int × Bool)
  | 0, _, _, _, _, _, _ => none
  | k + 1, x4, x5, x6, x7, x8, x9 => if x8 = true then (gossamerref8_Parse.j2 k x4 x5 x6 x7 (decide (x7 ≥ x9))) else (gossamerref8_Parse.j2 k x4 x5 x6 x7 true)
def gossamerref8_Parse.j2 : Nat → List ByteArray → Int → Int → Int → Bool → Option (Int × Bool)
  | 0, _, _, _, _, _ => none
  | k + 1, x4, x5, x6, x7, x45 => if x45 = true then (some (0, false)) else (if x6 = (wrap64 ((x4.length : Int) - 1)) then (gossamerref8_Parse.l0 k x4 (wrap64 (x5 + x7)) (wrap64 (x6 + 1))) else (if 0 ≤ (wrap64 (8 * (wrap64 (3 - x6)))) then (gossamerref8_Parse.l0 k x4 (wrap64 (x5 + (shl .i64 x7 (wrap64 (8 * (wrap64 (3 - x6))))))) (wrap64 (x6 + 1))) else (none)))
end
def gossamerref8_Parse.f (k : Nat) (a0 : ByteArray) : Option (Int × Bool) := (gossamerref8_dots.f k a0).bind fun t154 => (if (t154.length : Int) > 4 then (some (0, false)) else (gossamerref8_Parse.l0 k t154 0 0))
theorem gossamerref8_Parse.mono_l : ∀ k, (∀ y0 y1 y2, LeO (gossamerref8_Parse.l0 k y0 y1 y2) (gossamerref8_Parse.l0 (k + 1) y0 y1 y2)) ∧ (∀ y0 y1 y2 y3 y4 y5, LeO (gossamerref8_Parse.j1 k y0 y1 y2 y3 y4 y5) (gossamerref8_Parse.j1 (k + 1) y0 y1 y2 y3 y4 y5)) ∧ (∀ y0 y1 y2 y3 y4, LeO (gossamerref8_Parse.j2 k y0 y1 y2 y3 y4) (gossamerref8_Parse.j2 (k + 1) y0 y1 y2 y3 y4))
  | 0 => ⟨fun _ _ _ r h => by simp [gossamerref8_Parse.l0] at h, fun _ _ _ _ _ _ r h => by simp [gossamerref8_Parse.j1] at h, fun _ _ _ _ _ r h => by simp [gossamerref8_Parse.j2] at h⟩
  | k + 1 => by
    obtain ⟨ih0, ih1, ih2⟩ := gossamerref8_Parse.mono_l k
    refine ⟨?_, ?_, ?_⟩
    · intro y0 y1 y2
      unfold gossamerref8_Parse.l0
      repeat' first
      | (with_reducible exact ih0 _ _ _)
      | (with_reducible exact ih1 _ _ _ _ _ _)
      | (with_reducible exact ih2 _ _ _ _ _)
      | (with_reducible exact gossamerref8_dots.mono _ _)
      | (with_reducible exact gossamerref8_number.mono _ _)
      | (with_reducible exact LeO.refl _)
      | (with_reducible exact LeO.none _)
      | (with_reducible refine LeO.ite ?_ ?_)
      | (with_reducible refine LeO.bind ?_ (fun _ => ?_))
      | exact ih0 _ _ _
      | exact ih1 _ _ _ _ _ _
      | exact ih2 _ _ _ _ _
      | exact gossamerref8_dots.mono _ _
      | exact gossamerref8_number.mono _ _
      | exact LeO.none _
      | refine LeO.ite ?_ ?_
      | refine LeO.bind ?_ (fun _ => ?_)
    · intro y0 y1 y2 y3 y4 y5
      unfold gossamerref8_Parse.j1
      repeat' first
      | (with_reducible exact ih0 _ _ _)
      | (with_reducible exact ih1 _ _ _ _ _ _)
      | (with_reducible exact ih2 _ _ _ _ _)
      | (with_reducible exact gossamerref8_dots.mono _ _)
      | (with_reducible exact gossamerref8_number.mono _ _)
      | (with_reducible exact LeO.refl _)
      | (with_reducible exact LeO.none _)
      | (with_reducible refine LeO.ite ?_ ?_)
      | (with_reducible refine LeO.bind ?_ (fun _ => ?_))
      | exact ih0 _ _ _
      | exact ih1 _ _ _ _ _ _
      | exact ih2 _ _ _ _ _
      | exact gossamerref8_dots.mono _ _
      | exact gossamerref8_number.mono _ _
      | exact LeO.none _
      | refine LeO.ite ?_ ?_
      | refine LeO.bind ?_ (fun _ => ?_)
    · intro y0 y1 y2 y3 y4
      unfold gossamerref8_Parse.j2
      repeat' first
      | (with_reducible exact ih0 _ _ _)
      | (with_reducible exact ih1 _ _ _ _ _ _)
      | (with_reducible exact ih2 _ _ _ _ _)
      | (with_reducible exact gossamerref8_dots.mono _ _)
      | (with_reducible exact gossamerref8_number.mono _ _)
      | (with_reducible exact LeO.refl _)
      | (with_reducible exact LeO.none _)
      | (with_reducible refine LeO.ite ?_ ?_)
      | (with_reducible refine LeO.bind ?_ (fun _ => ?_))
      | exact ih0 _ _ _
      | exact ih1 _ _ _ _ _ _
      | exact ih2 _ _ _ _ _
      | exact gossamerref8_dots.mono _ _
      | exact gossamerref8_number.mono _ _
      | exact LeO.none _
      | refine LeO.ite ?_ ?_
      | refine LeO.bind ?_ (fun _ => ?_)
theorem gossamerref8_Parse.mono : ∀ a0 k, LeO (gossamerref8_Parse.f k a0) (gossamerref8_Parse.f (k + 1) a0) := by
  intro a0 k
  obtain ⟨ih0, ih1, ih2⟩ := gossamerref8_Parse.mono_l k
  unfold gossamerref8_Parse.f
  repeat' first
      | (with_reducible exact ih0 _ _ _)
      | (with_reducible exact ih1 _ _ _ _ _ _)
      | (with_reducible exact ih2 _ _ _ _ _)
      | (with_reducible exact gossamerref8_dots.mono _ _)
      | (with_reducible exact gossamerref8_number.mono _ _)
      | (with_reducible exact LeO.refl _)
      | (with_reducible exact LeO.none _)
      | (with_reducible refine LeO.ite ?_ ?_)
      | (with_reducible refine LeO.bind ?_ (fun _ => ?_))
      | exact ih0 _ _ _
      | exact ih1 _ _ _ _ _ _
      | exact ih2 _ _ _ _ _
      | exact gossamerref8_dots.mono _ _
      | exact gossamerref8_number.mono _ _
      | exact LeO.none _
      | refine LeO.ite ?_ ?_
      | refine LeO.bind ?_ (fun _ => ?_)
set_option maxHeartbeats 8000000 in
set_option maxRecDepth 100000 in
theorem gossamerref8_Parse.calls (k : Nat) (a0 : ByteArray) (r1 : Int) (r2 : Bool) (w : World) (h : gossamerref8_Parse.f k a0 = some (r1, r2)) :
    Calls Tryd.prog 9 #[.string a0] w fun e w' => e = .returned (.tuple #[.int .u32 r1, .bool r2]) ∧ Below w.heap.size w w' := by
  have HB := Aside0.mk (Below.refl w.heap.size w)
  have H : ((gossamerref8_dots.f k a0).bind fun t154 => (if (t154.length : Int) > 4 then (some (0, false)) else (gossamerref8_Parse.l0 k t154 0 0))) = some (r1, r2) := h
  clear h
  replace H := Option.bind_eq_some_iff.mp H
  obtain ⟨t154, A20, H⟩ := H
  replace H : (if (t154.length : Int) > 4 then (some (0, false)) else (gossamerref8_Parse.l0 k t154 0 0)) = some (r1, r2) := H
  have A2 := Aside0.mk A20
  clear A20
  by_cases c3 : (t154.length : Int) > 4
  · rw [if_pos c3] at H
    have c3b0 : decide (4 < (t154.length : Int)) = true := decide_eq_true c3
    have c3b1 : decide (4 < t154.length) = true := decide_eq_true (by omega)
    clear c3
    simp only [Option.some.injEq, Prod.mk.injEq] at H
    obtain ⟨rfl, rfl⟩ := H
    go_enter Tryd.func9, Tryd.ntmps9
    go_wp2_with (first | ((with_reducible refine gate_callee (f := 19) rfl ?_); refine goesL_ (some 11) rfl rfl Tryd.func19 (by kernel_rfl) rfl #[.string a0] rfl (by (try simp only [List.map_toArray, List.map_cons, List.map_nil]); first | done | rfl | (simp only [List.length_drop, List.length_take]; rfl)) ?_; (with_reducible refine (gossamerref8_dots.calls k a0 t154 _ A2.out).mono ?_); rintro e w4 ⟨v155, rfl, ho0, hb⟩; refine ⟨_, rfl, ?_⟩; have n0_ := Aside0.mk (Kd.R_lower ho0 (below_size (by repeat (first | (with_reducible first | exact HB.out | apply below_alloc | apply pw_below_drewN | apply below_drew1) | exact HB.out)))); have n1_ := Aside0.mk (below_step (by repeat (first | (with_reducible first | exact HB.out | apply below_alloc | apply pw_below_drewN | apply below_drew1) | exact HB.out)) hb); clear HB; have HO156 := n0_; have HB := n1_; clear n0_ n1_; (try clear hb); (try clear hb2); (try clear hk); (try clear hi); (try clear ho0); obtain ⟨Ao5, co5, eo5⟩ := Kd.R_slice HO156.out; subst eo5))
    go_ret2
    exact ⟨by first | rfl | (simp [errW_none, errW_some] <;> rfl) | (simp [*, errW_none, errW_some] <;> rfl), by repeat (first | (with_reducible first | exact HB.out | apply below_alloc | apply pw_below_drewN | apply below_drew1) | exact HB.out)⟩
  · rw [if_neg c3] at H
    have c3b0 : decide (4 < (t154.length : Int)) = false := decide_eq_false c3
    have c3b1 : decide (4 < t154.length) = false := decide_eq_false (by omega)
    clear c3
    have H' := Aside0.mk H
    clear H
    go_enter Tryd.func9, Tryd.ntmps9
    go_wp2_with (first | ((with_reducible refine gate_callee (f := 19) rfl ?_); refine goesL_ (some 11) rfl rfl Tryd.func19 (by kernel_rfl) rfl #[.string a0] rfl (by (try simp only [List.map_toArray, List.map_cons, List.map_nil]); first | done | rfl | (simp only [List.length_drop, List.length_take]; rfl)) ?_; (with_reducible refine (gossamerref8_dots.calls k a0 t154 _ A2.out).mono ?_); rintro e w6 ⟨v155, rfl, ho0, hb⟩; refine ⟨_, rfl, ?_⟩; have n0_ := Aside0.mk (Kd.R_lower ho0 (below_size (by repeat (first | (with_reducible first | exact HB.out | apply below_alloc | apply pw_below_drewN | apply below_drew1) | exact HB.out)))); have n1_ := Aside0.mk (below_step (by repeat (first | (with_reducible first | exact HB.out | apply below_alloc | apply pw_below_drewN | apply below_drew1) | exact HB.out)) hb); clear HB; have HO156 := n0_; have HB := n1_; clear n0_ n1_; (try clear hb); (try clear hb2); (try clear hk); (try clear hi); (try clear ho0); obtain ⟨Ao7, co7, eo7⟩ := Kd.R_slice HO156.out; subst eo7))
    go_loopg [5, 6] k (fun kq v5 v6 w' => ∃ (x5_1 : Int) (x6_1 : Int), v5 = .int .i64 x5_1 ∧ v6 = .int .i64 x6_1 ∧ Aside0 (gossamerref8_Parse.l0 kq t154 x5_1 x6_1 = some (r1, r2)) ∧ Aside0 (kq ≤ k) ∧ Aside0 (Kd.R Kd.string 9 w' w.heap.size (fun _ => True) (.slice Ao7 t154.length co7) t154) ∧ Aside0 (Below w.heap.size w w'))
    case atStart => exact ⟨(0), (0), (by first | rfl | (simp; done) | (simp [*]; done)), (by first | rfl | (simp; done) | (simp [*]; done)), H', ⟨Nat.le_refl _⟩, ⟨by (with_reducible repeat (first | apply Kd.R_alloc | apply Kd.R_drewN | apply Kd.R_drew)); exact HO156.out⟩, ⟨by repeat (first | (with_reducible first | exact HB.out | apply below_alloc | apply pw_below_drewN | apply below_drew1) | exact HB.out)⟩⟩
    case round =>
      clear H'
      try clear c1
      try clear p2
      try clear c3
      try clear c3b0
      try clear c3b1
      obtain ⟨x5_1, x6_1, rfl, rfl, HA, HK1, HO_4, HB⟩ := hrel
      cases gk with
      | zero => exact absurd HA.out (by simp [gossamerref8_Parse.l0])
      | succ k1 =>
        have H := HA.out
        clear HA
        simp only [gossamerref8_Parse.l0] at H
        by_cases c8 : x6_1 < (t154.length : Int)
        · rw [if_pos c8] at H
          have c8b0 : decide (x6_1 < (t154.length : Int)) = true := decide_eq_true c8
          clear c8
          by_cases c9 : 0 ≤ x6_1
          · rw [if_pos c9] at H
            have c9b0 : decide (0 ≤ x6_1) = true := decide_eq_true c9
            clear c9
            replace H := Option.bind_eq_some_iff.mp H
            obtain ⟨⟨t158, t159⟩, A100, H⟩ := H
            replace H : (if x6_1 = (wrap64 ((t154.length : Int) - 1)) then (if 0 ≤ (wrap64 (8 * (wrap64 (5 - (t154.length : Int))))) then (gossamerref8_Parse.j1 k1 t154 x5_1 x6_1 t158 t159 (shl .i64 1 (wrap64 (8 * (wrap64 (5 - (t154.length : Int))))))) else (none)) else (gossamerref8_Parse.j1 k1 t154 x5_1 x6_1 t158 t159 256)) = some (r1, r2) := H
            have A10 := Aside0.mk A100
            clear A100
            have HC11 := Aside0.mk H
            clear H
            have p157 : 0 ≤ (x6_1 : Int) := of_decide_eq_true (by first | (with_reducible assumption) | assumption)
            have q157 : x6_1 < (t154.length : Int) := of_decide_eq_true (by first | (with_reducible assumption) | assumption)
            obtain ⟨ad157, e157, hx157_0⟩ := Kd.at_string (Kd.R_reads' HO_4.out).2.2 x6_1 p157 q157
            cases e157
            replace p157 := eq_true p157
            replace q157 := eq_true q157
            go_upto_if 33 with (first | ((with_reducible refine gate_callee (f := 20) rfl ?_); refine goesL_ (some 26) rfl rfl Tryd.func20 (by kernel_rfl) rfl #[.string (rdOf ByteArray.empty t154 x6_1)] rfl (by (try simp only [List.map_toArray, List.map_cons, List.map_nil]); first | done | rfl | (simp only [List.length_drop, List.length_take]; rfl)) ?_; (with_reducible refine (gossamerref8_number.calls k1 (rdOf ByteArray.empty t154 x6_1) t158 t159 _ A10.out).mono ?_); rintro e w12 ⟨rfl, hb⟩; refine ⟨_, rfl, ?_⟩; have n0_ := Aside0.mk (Kd.R_below (by (with_reducible repeat (first | apply Kd.R_alloc | apply Kd.R_drewN | apply Kd.R_drew)); exact HO_4.out) hb); have n1_ := Aside0.mk (below_step (by repeat (first | (with_reducible first | exact HB.out | apply below_alloc | apply pw_below_drewN | apply below_drew1) | exact HB.out)) hb); clear HO_4; clear HB; have HO_4 := n0_; have HB := n1_; clear n0_ n1_; (try clear hb); (try clear hb2); (try clear hk); (try clear hi)))
            (try simp only [Act.put, List.setIfInBounds_toArray, List.set_cons_zero, List.set_cons_succ])
            go_cut [9] (fun v9 wc => ∃ (kq : Nat) (x9_10 : Int), v9 = .int .i64 x9_10 ∧ Aside0 (gossamerref8_Parse.j1 kq t154 x5_1 x6_1 t158 t159 x9_10 = some (r1, r2)) ∧ Aside0 (kq ≤ k1) ∧ Aside0 (Kd.R Kd.string 9 wc w.heap.size (fun _ => True) (.slice (some ad157) t154.length co7) t154) ∧ Aside0 (Below w.heap.size w wc))
            case first =>
              have H := HC11.out
              clear HC11
              by_cases c13 : x6_1 = (wrap64 ((t154.length : Int) - 1))
              · rw [if_pos c13] at H
                have c13b0 : (x6_1 == (wrap64 ((t154.length : Int) - 1))) = true := beq_iff_eq.mpr c13
                have c13b1 : (x6_1 != (wrap64 ((t154.length : Int) - 1))) = false := bne_eq_false_iff_eq.mpr c13
                clear c13
                (first | rw [c13b0] | (simp only [i64_w, i32_w]; rw [c13b0]) | skip)
                obtain ⟨ji14, hji14⟩ : ∃ j_ : Int, (wrap64 (8 * (wrap64 (5 - (t154.length : Int))))) = j_ := ⟨_, rfl⟩
                replace H : (if 0 ≤ (ji14) then (gossamerref8_Parse.j1 k1 t154 x5_1 x6_1 t158 t159 (shl .i64 1 (ji14))) else (none)) = some (r1, r2) := by first | (rw [hji14] at H; exact H) | (simp only [hji14] at H ⊢; exact H)
                have hji14w : (IntKind.i64.wrap (8 * (wrap64 (5 - (t154.length : Int))))) = ji14 := (i64_w _).trans hji14
                by_cases c15 : 0 ≤ (ji14)
                · rw [if_pos c15] at H
                  have c15b0 := eq_true c15
                  have c15b1 : decide (0 ≤ (ji14)) = true := decide_eq_true c15
                  clear c15
                  obtain ⟨ji16, hji16⟩ : ∃ j_ : Int, (shl .i64 1 (ji14)) = j_ := ⟨_, rfl⟩
                  replace H : (gossamerref8_Parse.j1 k1 t154 x5_1 x6_1 t158 t159 ji16) = some (r1, r2) := by first | (rw [hji16] at H; exact H) | (simp only [hji16] at H ⊢; exact H)
                  have hji16_ : (IntKind.i64.wrap (1 * 2 ^ min (ji14).toNat 64)) = ji16 := hji16
                  have hji16z : (ji14) ≤ 64 → (IntKind.i64.wrap (1 * 2 ^ (ji14).toNat)) = ji16 := shl_small hji16
                  have hji16u : (IntKind.i64.wrap (2 ^ min (ji14).toNat 64)) = ji16 := by have h_ := hji16_; rw [Int.one_mul] at h_; exact h_
                  have hji16v : (ji14) ≤ 64 → (IntKind.i64.wrap (2 ^ (ji14).toNat)) = ji16 := fun hle_ => by have h_ := hji16z hle_; rw [Int.one_mul] at h_; exact h_
                  have hji16y : (wrap64 (1 * 2 ^ min (ji14).toNat 64)) = ji16 := (i64_w _).symm.trans hji16_
                  have hji16x : (ji14) ≤ 64 → (wrap64 (1 * 2 ^ (ji14).toNat)) = ji16 := fun h_ => (i64_w _).symm.trans (hji16z h_)
                  have H' := Aside0.mk H
                  clear H
                  go_wp2
                  go_meet
                  case rel => exact ⟨_, (ji16), (by first | rfl | (simp; done) | (simp only [← hji16] <;> (first | rfl | simp)) | (simp [*]; done)), H', ⟨by have := HK1.out; first | omega | exact Nat.le_refl _⟩, ⟨by (with_reducible repeat (first | apply Kd.R_alloc | apply Kd.R_drewN | apply Kd.R_drew)); exact HO_4.out⟩, ⟨by repeat (first | (with_reducible first | exact HB.out | apply below_alloc | apply pw_below_drewN | apply below_drew1) | exact HB.out)⟩⟩
                · rw [if_neg c15] at H
                  exact absurd H (by simp)
              · rw [if_neg c13] at H
                have c13b0 : (x6_1 == (wrap64 ((t154.length : Int) - 1))) = false := beq_eq_false_iff_ne.mpr c13
                have c13b1 : (x6_1 != (wrap64 ((t154.length : Int) - 1))) = true := bne_iff_ne.mpr c13
                (first | rw [c13b0] | (simp only [i64_w, i32_w]; rw [c13b0]) | skip)
                have H' := Aside0.mk H
                clear H
                go_wp2
                go_meet
                case rel => exact ⟨_, (256), (by first | rfl | (simp; done) | (simp [*]; done)), H', ⟨by have := HK1.out; first | omega | exact Nat.le_refl _⟩, ⟨by (with_reducible repeat (first | apply Kd.R_alloc | apply Kd.R_drewN | apply Kd.R_drew)); exact HO_4.out⟩, ⟨by repeat (first | (with_reducible first | exact HB.out | apply below_alloc | apply pw_below_drewN | apply below_drew1) | exact HB.out)⟩⟩
            case rest =>
              clear HC11
              try clear c1
              try clear p1
              try clear q1
              try clear hx1
              try clear c2
              try clear p2
              try clear c3
              try clear c3b0
              try clear c3b1
              try clear p6
              try clear c8
              try clear c8b0
              try clear c9
              try clear c9b0
              try clear c13
              try clear c13b0
              try clear c13b1
              try clear c15
              try clear c15b0
              try clear c15b1
              try clear p15
              try clear q15
              try clear hx15
              try clear hx157_0
              try clear p157
              try clear p2
              try clear q157
              obtain ⟨kq, x9_10, rfl, HA, HJ10, HO_4, HB⟩ := hcut
              cases kq with
              | zero => exact absurd HA.out (by simp [gossamerref8_Parse.j1])
              | succ kj10 =>
                have H := HA.out
                clear HA
                simp only [gossamerref8_Parse.j1] at H
                have HC17 := Aside0.mk H
                clear H
                go_upto_region 12 with (fail)
                go_cut [45] (fun v45 wc => ∃ (kq : Nat) (x45_16 : Bool), v45 = .bool x45_16 ∧ Aside0 (gossamerref8_Parse.j2 kq t154 x5_1 x6_1 t158 x45_16 = some (r1, r2)) ∧ Aside0 (kq ≤ kj10) ∧ Aside0 (Kd.R Kd.string 9 wc w.heap.size (fun _ => True) (.slice (some ad157) t154.length co7) t154) ∧ Aside0 (Below w.heap.size w wc))
                case first =>
                  have H := HC17.out
                  clear HC17
                  by_cases c18 : t159 = true
                  · subst c18
                    have H1 : (gossamerref8_Parse.j2 kj10 t154 x5_1 x6_1 t158 (decide (t158 ≥ x9_10))) = some (r1, r2) := by rw [if_pos rfl] at H; exact H
                    clear H
                    have H := H1
                    clear H1
                    have H' := Aside0.mk H
                    clear H
                    go_wp2
                    go_meet
                    case rel => exact ⟨_, (decide (t158 ≥ x9_10)), (by first | rfl | (simp; done) | (simp [*]; done)), H', ⟨by have := HK1.out; have := HJ10.out; first | omega | exact Nat.le_refl _⟩, ⟨by (with_reducible repeat (first | apply Kd.R_alloc | apply Kd.R_drewN | apply Kd.R_drew)); exact HO_4.out⟩, ⟨by repeat (first | (with_reducible first | exact HB.out | apply below_alloc | apply pw_below_drewN | apply below_drew1) | exact HB.out)⟩⟩
                  · replace c18 := Bool.eq_false_iff.mpr c18
                    subst c18
                    have H1 : (gossamerref8_Parse.j2 kj10 t154 x5_1 x6_1 t158 true) = some (r1, r2) := by rw [if_neg (show ¬ (false = true) by decide)] at H; exact H
                    clear H
                    have H := H1
                    clear H1
                    have H' := Aside0.mk H
                    clear H
                    go_wp2
                    go_meet
                    case rel => exact ⟨_, (true), (by first | rfl | (simp; done) | (simp [*]; done)), H', ⟨by have := HK1.out; have := HJ10.out; first | omega | exact Nat.le_refl _⟩, ⟨by (with_reducible repeat (first | apply Kd.R_alloc | apply Kd.R_drewN | apply Kd.R_drew)); exact HO_4.out⟩, ⟨by repeat (first | (with_reducible first | exact HB.out | apply below_alloc | apply pw_below_drewN | apply below_drew1) | exact HB.out)⟩⟩
                case rest =>
                  clear HC17
                  try clear c1
                  try clear p1
                  try clear q1
                  try clear hx1
                  try clear c2
                  try clear p2
                  try clear c3
                  try clear c3b0
                  try clear c3b1
                  try clear p6
                  try clear c8
                  try clear c8b0
                  try clear c9
                  try clear c9b0
                  try clear c13
                  try clear c13b0
                  try clear c13b1
                  try clear c15
                  try clear c15b0
                  try clear c15b1
                  try clear p15
                  try clear q15
                  try clear hx15
                  try clear c18
                  try clear hx157_0
                  try clear p1
                  try clear p15
                  try clear p157
                  try clear p2
                  try clear p6
                  try clear q1
                  try clear q15
                  try clear q157
                  obtain ⟨kq, x45_16, rfl, HA, HJ16, HO_4, HB⟩ := hcut
                  cases kq with
                  | zero => exact absurd HA.out (by simp [gossamerref8_Parse.j2])
                  | succ kj16 =>
                    have H := HA.out
                    clear HA
                    simp only [gossamerref8_Parse.j2] at H
                    by_cases c19 : x45_16 = true
                    · subst c19
                      have H1 : (some (0, false)) = some (r1, r2) := by rw [if_pos rfl] at H; exact H
                      clear H
                      have H := H1
                      clear H1
                      simp only [Option.some.injEq, Prod.mk.injEq] at H
                      obtain ⟨rfl, rfl⟩ := H
                      go_wp2
                      go_ret2
                      exact ⟨by first | rfl | (simp [errW_none, errW_some] <;> rfl) | (simp [*, errW_none, errW_some] <;> rfl), by repeat (first | (with_reducible first | exact HB.out | apply below_alloc | apply pw_below_drewN | apply below_drew1) | exact HB.out)⟩
                    · replace c19 := Bool.eq_false_iff.mpr c19
                      subst c19
                      have H1 : (if x6_1 = (wrap64 ((t154.length : Int) - 1)) then (gossamerref8_Parse.l0 kj16 t154 (wrap64 (x5_1 + t158)) (wrap64 (x6_1 + 1))) else (if 0 ≤ (wrap64 (8 * (wrap64 (3 - x6_1)))) then (gossamerref8_Parse.l0 kj16 t154 (wrap64 (x5_1 + (shl .i64 t158 (wrap64 (8 * (wrap64 (3 - x6_1))))))) (wrap64 (x6_1 + 1))) else (none))) = some (r1, r2) := by rw [if_neg (show ¬ (false = true) by decide)] at H; exact H
                      clear H
                      have H := H1
                      clear H1
                      by_cases c20 : x6_1 = (wrap64 ((t154.length : Int) - 1))
                      · rw [if_pos c20] at H
                        have c20b0 : (x6_1 == (wrap64 ((t154.length : Int) - 1))) = true := beq_iff_eq.mpr c20
                        have c20b1 : (x6_1 != (wrap64 ((t154.length : Int) - 1))) = false := bne_eq_false_iff_eq.mpr c20
                        clear c20
                        have H' := Aside0.mk H
                        clear H
                        go_wp2
                        go_roundg kj16
                        case measure => have := HK1.out; have := HJ10.out; have := HJ16.out; omega
                        case rel => exact ⟨(wrap64 (x5_1 + t158)), (wrap64 (x6_1 + 1)), (by first | rfl | (simp; done) | (simp [*]; done)), (by first | rfl | (simp; done) | (simp [*]; done)), H', ⟨by have := HK1.out; have := HJ10.out; have := HJ16.out; omega⟩, ⟨by (with_reducible repeat (first | apply Kd.R_alloc | apply Kd.R_drewN | apply Kd.R_drew)); exact HO_4.out⟩, ⟨by repeat (first | (with_reducible first | exact HB.out | apply below_alloc | apply pw_below_drewN | apply below_drew1) | exact HB.out)⟩⟩
                      · rw [if_neg c20] at H
                        have c20b0 : (x6_1 == (wrap64 ((t154.length : Int) - 1))) = false := beq_eq_false_iff_ne.mpr c20
                        have c20b1 : (x6_1 != (wrap64 ((t154.length : Int) - 1))) = true := bne_iff_ne.mpr c20
                        obtain ⟨ji21, hji21⟩ : ∃ j_ : Int, (wrap64 (8 * (wrap64 (3 - x6_1)))) = j_ := ⟨_, rfl⟩
                        replace H : (if 0 ≤ (ji21) then (gossamerref8_Parse.l0 kj16 t154 (wrap64 (x5_1 + (shl .i64 t158 (ji21)))) (wrap64 (x6_1 + 1))) else (none)) = some (r1, r2) := by first | (rw [hji21] at H; exact H) | (simp only [hji21] at H ⊢; exact H)
                        have hji21w : (IntKind.i64.wrap (8 * (wrap64 (3 - x6_1)))) = ji21 := (i64_w _).trans hji21
                        by_cases c22 : 0 ≤ (ji21)
                        · rw [if_pos c22] at H
                          have c22b0 := eq_true c22
                          have c22b1 : decide (0 ≤ (ji21)) = true := decide_eq_true c22
                          clear c22
                          obtain ⟨ji23, hji23⟩ : ∃ j_ : Int, (shl .i64 t158 (ji21)) = j_ := ⟨_, rfl⟩
                          replace H : (gossamerref8_Parse.l0 kj16 t154 (wrap64 (x5_1 + (ji23))) (wrap64 (x6_1 + 1))) = some (r1, r2) := by first | (rw [hji23] at H; exact H) | (simp only [hji23] at H ⊢; exact H)
                          have hji23_ : (IntKind.i64.wrap (t158 * 2 ^ min (ji21).toNat 64)) = ji23 := hji23
                          have hji23z : (ji21) ≤ 64 → (IntKind.i64.wrap (t158 * 2 ^ (ji21).toNat)) = ji23 := shl_small hji23
                          have hji23y : (wrap64 (t158 * 2 ^ min (ji21).toNat 64)) = ji23 := (i64_w _).symm.trans hji23_
                          have hji23x : (ji21) ≤ 64 → (wrap64 (t158 * 2 ^ (ji21).toNat)) = ji23 := fun h_ => (i64_w _).symm.trans (hji23z h_)
                          have H' := Aside0.mk H
                          clear H
                          go_wp2
                          go_roundg kj16
                          case measure => have := HK1.out; have := HJ10.out; have := HJ16.out; omega
                          case rel => exact ⟨(wrap64 (x5_1 + (ji23))), (wrap64 (x6_1 + 1)), (by first | rfl | (simp; done) | (simp only [← hji23] <;> (first | rfl | simp)) | (simp [*]; done)), (by first | rfl | (simp; done) | (simp [*]; done)), H', ⟨by have := HK1.out; have := HJ10.out; have := HJ16.out; omega⟩, ⟨by (with_reducible repeat (first | apply Kd.R_alloc | apply Kd.R_drewN | apply Kd.R_drew)); exact HO_4.out⟩, ⟨by repeat (first | (with_reducible first | exact HB.out | apply below_alloc | apply pw_below_drewN | apply below_drew1) | exact HB.out)⟩⟩
                        · rw [if_neg c22] at H
                          exact absurd H (by simp)
          · rw [if_neg c9] at H
            exact absurd H (by simp)
        · rw [if_neg c8] at H
          have c8b0 : decide (x6_1 < (t154.length : Int)) = false := decide_eq_false c8
          clear c8
          simp only [Option.some.injEq, Prod.mk.injEq] at H
          obtain ⟨rfl, rfl⟩ := H
          go_wp2
          go_ret2
          exact ⟨by first | rfl | (simp [errW_none, errW_some] <;> rfl) | (simp [*, errW_none, errW_some] <;> rfl), by repeat (first | (with_reducible first | exact HB.out | apply below_alloc | apply pw_below_drewN | apply below_drew1) | exact HB.out)⟩

/-! ### gossamerref8_Ends: function 11 -/
mutual
def gossamerref8_Ends.j0 : Nat → ByteArray → Bool → Option (Bool)
  | 0, _, _ => none
  | k + 1, x4, x33 => if x33 = true then ((gossamerref8_number.f k x4).bind fun bt164 => (some bt164.2)) else (gossamerref8_Ends.l0 k x4 0)
def gossamerref8_Ends.l0 : Nat → ByteArray → Int → Option (Bool)
  | 0, _, _ => none
  | k + 1, x4, x7 => if x7 < (x4.size : Int) then (if 0 ≤ x7 then (if (bt x4 x7) < 48 then (some false) else (if (bt x4 x7) > 57 then (some false) else (gossamerref8_Ends.l0 k x4 (wrap64 (x7 + 1))))) else (none)) else (some (decide ((x4.size : Int) > 0)))
end
def gossamerref8_Ends.f (k : Nat) (a0 : ByteArray) : Option (Bool) := (gossamerref8_dots.f k a0).bind fun t160 => (if 0 ≤ (wrap64 ((t160.length : Int) - 1)) then (if (wrap64 ((t160.length : Int) - 1)) < (t160.length : Int) then (if ((rdOf ByteArray.empty t160 (wrap64 ((t160.length : Int) - 1))).size : Int) ≥ 2 then (if 0 < ((rdOf ByteArray.empty t160 (wrap64 ((t160.length : Int) - 1))).size : Int) then (if (bt (rdOf ByteArray.empty t160 (wrap64 ((t160.length : Int) - 1))) 0) = 48 then (if 1 < ((rdOf ByteArray.empty t160 (wrap64 ((t160.length : Int) - 1))).size : Int) then (if (bt (rdOf ByteArray.empty t160 (wrap64 ((t160.length : Int) - 1))) 1) = 120 then (gossamerref8_Ends.j0 k (rdOf ByteArray.empty t160 (wrap64 ((t160.length : Int) - 1))) true) else (gossamerref8_Ends.j0 k (rdOf ByteArray.empty t160 (wrap64 ((t160.length : Int) - 1))) ((bt (rdOf ByteArray.empty t160 (wrap64 ((t160.length : Int) - 1))) 1) == 88))) else (none)) else (gossamerref8_Ends.j0 k (rdOf ByteArray.empty t160 (wrap64 ((t160.length : Int) - 1))) false)) else (none)) else (gossamerref8_Ends.j0 k (rdOf ByteArray.empty t160 (wrap64 ((t160.length : Int) - 1))) false)) else (none)) else (none))
theorem gossamerref8_Ends.mono_l : ∀ k, (∀ y0 y1, LeO (gossamerref8_Ends.j0 k y0 y1) (gossamerref8_Ends.j0 (k + 1) y0 y1)) ∧ (∀ y0 y1, LeO (gossamerref8_Ends.l0 k y0 y1) (gossamerref8_Ends.l0 (k + 1) y0 y1))
  | 0 => ⟨fun _ _ r h => by simp [gossamerref8_Ends.j0] at h, fun _ _ r h => by simp [gossamerref8_Ends.l0] at h⟩
  | k + 1 => by
    obtain ⟨ih0, ih1⟩ := gossamerref8_Ends.mono_l k
    refine ⟨?_, ?_⟩
    · intro y0 y1
      unfold gossamerref8_Ends.j0
      repeat' first
      | (with_reducible exact ih0 _ _)
      | (with_reducible exact ih1 _ _)
      | (with_reducible exact gossamerref8_dots.mono _ _)
      | (with_reducible exact gossamerref8_number.mono _ _)
      | (with_reducible exact LeO.refl _)
      | (with_reducible exact LeO.none _)
      | (with_reducible refine LeO.ite ?_ ?_)
      | (with_reducible refine LeO.bind ?_ (fun _ => ?_))
      | exact ih0 _ _
      | exact ih1 _ _
      | exact gossamerref8_dots.mono _ _
      | exact gossamerref8_number.mono _ _
      | exact LeO.none _
      | refine LeO.ite ?_ ?_
      | refine LeO.bind ?_ (fun _ => ?_)
    · intro y0 y1
      unfold gossamerref8_Ends.l0
      repeat' first
      | (with_reducible exact ih0 _ _)
      | (with_reducible exact ih1 _ _)
      | (with_reducible exact gossamerref8_dots.mono _ _)
      | (with_reducible exact gossamerref8_number.mono _ _)
      | (with_reducible exact LeO.refl _)
      | (with_reducible exact LeO.none _)
      | (with_reducible refine LeO.ite ?_ ?_)
      | (with_reducible refine LeO.bind ?_ (fun _ => ?_))
      | exact ih0 _ _
      | exact ih1 _ _
      | exact gossamerref8_dots.mono _ _
      | exact gossamerref8_number.mono _ _
      | exact LeO.none _
      | refine LeO.ite ?_ ?_
      | refine LeO.bind ?_ (fun _ => ?_)
theorem gossamerref8_Ends.mono : ∀ a0 k, LeO (gossamerref8_Ends.f k a0) (gossamerref8_Ends.f (k + 1) a0) := by
  intro a0 k
  obtain ⟨ih0, ih1⟩ := gossamerref8_Ends.mono_l k
  unfold gossamerref8_Ends.f
  repeat' first
      | (with_reducible exact ih0 _ _)
      | (with_reducible exact ih1 _ _)
      | (with_reducible exact gossamerref8_dots.mono _ _)
      | (with_reducible exact gossamerref8_number.mono _ _)
      | (with_reducible exact LeO.refl _)
      | (with_reducible exact LeO.none _)
      | (with_reducible refine LeO.ite ?_ ?_)
      | (with_reducible refine LeO.bind ?_ (fun _ => ?_))
      | exact ih0 _ _
      | exact ih1 _ _
      | exact gossamerref8_dots.mono _ _
      | exact gossamerref8_number.mono _ _
      | exact LeO.none _
      | refine LeO.ite ?_ ?_
      | refine LeO.bind ?_ (fun _ => ?_)
set_option maxHeartbeats 8000000 in
set_option maxRecDepth 100000 in
theorem gossamerref8_Ends.calls (k : Nat) (a0 : ByteArray) (r : Bool) (w : World) (h : gossamerref8_Ends.f k a0 = some r) :
    Calls Tryd.prog 11 #[.string a0] w fun e w' => e = .returned (.bool r) ∧ Below w.heap.size w w' := by
  have HB := Aside0.mk (Below.refl w.heap.size w)
  have H : ((gossamerref8_dots.f k a0).bind fun t160 => (if 0 ≤ (wrap64 ((t160.length : Int) - 1)) then (if (wrap64 ((t160.length : Int) - 1)) < (t160.length : Int) then (if ((rdOf ByteArray.empty t160 (wrap64 ((t160.length : Int) - 1))).size : Int) ≥ 2 then (if 0 < ((rdOf ByteArray.empty t160 (wrap64 ((t160.length : Int) - 1))).size : Int) then (if (bt (rdOf ByteArray.empty t160 (wrap64 ((t160.length : Int) - 1))) 0) = 48 then (if 1 < ((rdOf ByteArray.empty t160 (wrap64 ((t160.length : Int) - 1))).size : Int) then (if (bt (rdOf ByteArray.empty t160 (wrap64 ((t160.length : Int) - 1))) 1) = 120 then (gossamerref8_Ends.j0 k (rdOf ByteArray.empty t160 (wrap64 ((t160.length : Int) - 1))) true) else (gossamerref8_Ends.j0 k (rdOf ByteArray.empty t160 (wrap64 ((t160.length : Int) - 1))) ((bt (rdOf ByteArray.empty t160 (wrap64 ((t160.length : Int) - 1))) 1) == 88))) else (none)) else (gossamerref8_Ends.j0 k (rdOf ByteArray.empty t160 (wrap64 ((t160.length : Int) - 1))) false)) else (none)) else (gossamerref8_Ends.j0 k (rdOf ByteArray.empty t160 (wrap64 ((t160.length : Int) - 1))) false)) else (none)) else (none))) = some r := h
  clear h
  replace H := Option.bind_eq_some_iff.mp H
  obtain ⟨t160, A20, H⟩ := H
  replace H : (if 0 ≤ (wrap64 ((t160.length : Int) - 1)) then (if (wrap64 ((t160.length : Int) - 1)) < (t160.length : Int) then (if ((rdOf ByteArray.empty t160 (wrap64 ((t160.length : Int) - 1))).size : Int) ≥ 2 then (if 0 < ((rdOf ByteArray.empty t160 (wrap64 ((t160.length : Int) - 1))).size : Int) then (if (bt (rdOf ByteArray.empty t160 (wrap64 ((t160.length : Int) - 1))) 0) = 48 then (if 1 < ((rdOf ByteArray.empty t160 (wrap64 ((t160.length : Int) - 1))).size : Int) then (if (bt (rdOf ByteArray.empty t160 (wrap64 ((t160.length : Int) - 1))) 1) = 120 then (gossamerref8_Ends.j0 k (rdOf ByteArray.empty t160 (wrap64 ((t160.length : Int) - 1))) true) else (gossamerref8_Ends.j0 k (rdOf ByteArray.empty t160 (wrap64 ((t160.length : Int) - 1))) ((bt (rdOf ByteArray.empty t160 (wrap64 ((t160.length : Int) - 1))) 1) == 88))) else (none)) else (gossamerref8_Ends.j0 k (rdOf ByteArray.empty t160 (wrap64 ((t160.length : Int) - 1))) false)) else (none)) else (gossamerref8_Ends.j0 k (rdOf ByteArray.empty t160 (wrap64 ((t160.length : Int) - 1))) false)) else (none)) else (none)) = some r := H
  have A2 := Aside0.mk A20
  clear A20
  obtain ⟨ji3, hji3⟩ : ∃ j_ : Int, (wrap64 ((t160.length : Int) - 1)) = j_ := ⟨_, rfl⟩
  replace H : (if 0 ≤ (ji3) then (if (ji3) < (t160.length : Int) then (if ((rdOf ByteArray.empty t160 (ji3)).size : Int) ≥ 2 then (if 0 < ((rdOf ByteArray.empty t160 (ji3)).size : Int) then (if (bt (rdOf ByteArray.empty t160 (ji3)) 0) = 48 then (if 1 < ((rdOf ByteArray.empty t160 (ji3)).size : Int) then (if (bt (rdOf ByteArray.empty t160 (ji3)) 1) = 120 then (gossamerref8_Ends.j0 k (rdOf ByteArray.empty t160 (ji3)) true) else (gossamerref8_Ends.j0 k (rdOf ByteArray.empty t160 (ji3)) ((bt (rdOf ByteArray.empty t160 (ji3)) 1) == 88))) else (none)) else (gossamerref8_Ends.j0 k (rdOf ByteArray.empty t160 (ji3)) false)) else (none)) else (gossamerref8_Ends.j0 k (rdOf ByteArray.empty t160 (ji3)) false)) else (none)) else (none)) = some r := by first | (rw [hji3] at H; exact H) | (simp only [hji3] at H ⊢; exact H)
  (try rw [hji3] at A2)
  have hji3w : (IntKind.i64.wrap ((t160.length : Int) - 1)) = ji3 := (i64_w _).trans hji3
  by_cases c4 : 0 ≤ (ji3)
  · rw [if_pos c4] at H
    have c4b0 : decide (0 ≤ (ji3)) = true := decide_eq_true c4
    clear c4
    by_cases c5 : (ji3) < (t160.length : Int)
    · rw [if_pos c5] at H
      have c5b0 : decide ((ji3) < (t160.length : Int)) = true := decide_eq_true c5
      clear c5
      have HC6 := Aside0.mk H
      clear H
      go_enter Tryd.func11, Tryd.ntmps11
      go_upto_region 3 with (first | ((with_reducible refine gate_callee (f := 19) rfl ?_); refine goesL_ (some 9) rfl rfl Tryd.func19 (by kernel_rfl) rfl #[.string a0] rfl (by (try simp only [List.map_toArray, List.map_cons, List.map_nil]); first | done | rfl | (simp only [List.length_drop, List.length_take]; rfl)) ?_; (with_reducible refine (gossamerref8_dots.calls k a0 t160 _ A2.out).mono ?_); rintro e w7 ⟨v161, rfl, ho0, hb⟩; refine ⟨_, rfl, ?_⟩; have n0_ := Aside0.mk (Kd.R_lower ho0 (below_size (by repeat (first | (with_reducible first | exact HB.out | apply below_alloc | apply pw_below_drewN | apply below_drew1) | exact HB.out)))); have n1_ := Aside0.mk (below_step (by repeat (first | (with_reducible first | exact HB.out | apply below_alloc | apply pw_below_drewN | apply below_drew1) | exact HB.out)) hb); clear HB; have HO162 := n0_; have HB := n1_; clear n0_ n1_; (try clear hb); (try clear hb2); (try clear hk); (try clear hi); (try clear ho0); obtain ⟨Ao8, co8, eo8⟩ := Kd.R_slice HO162.out; subst eo8; have p163 : 0 ≤ ((ji3) : Int) := of_decide_eq_true (by first | (with_reducible assumption) | assumption); have q163 : (ji3) < (t160.length : Int) := of_decide_eq_true (by first | (with_reducible assumption) | assumption); obtain ⟨ad163, e163, hx163_0⟩ := Kd.at_string (Kd.R_reads' HO162.out).2.2 (ji3) p163 q163; cases e163; replace p163 := eq_true p163; replace q163 := eq_true q163))
      (try simp only [Act.put, List.setIfInBounds_toArray, List.set_cons_zero, List.set_cons_succ])
      go_cut [33] (fun v33 wc => ∃ (kq : Nat) (x33_5 : Bool), v33 = .bool x33_5 ∧ Aside0 (gossamerref8_Ends.j0 kq (rdOf ByteArray.empty t160 (ji3)) x33_5 = some r) ∧ Aside0 (kq ≤ k) ∧ Aside0 (Below w.heap.size w wc))
      case first =>
        have H := HC6.out
        clear HC6
        by_cases c9 : ((rdOf ByteArray.empty t160 (ji3)).size : Int) ≥ 2
        · rw [if_pos c9] at H
          have c9b0 : decide (2 ≤ ((rdOf ByteArray.empty t160 (ji3)).size : Int)) = true := decide_eq_true c9
          have c9b1 : decide (2 ≤ (rdOf ByteArray.empty t160 (ji3)).size) = true := decide_eq_true (by omega)
          clear c9
          (first | rw [c9b0] | (simp only [i64_w, i32_w]; rw [c9b0]) | skip)
          by_cases c10 : 0 < ((rdOf ByteArray.empty t160 (ji3)).size : Int)
          · rw [if_pos c10] at H
            have c10b0 : decide (0 < ((rdOf ByteArray.empty t160 (ji3)).size : Int)) = true := decide_eq_true c10
            have c10b1 : decide (0 < (rdOf ByteArray.empty t160 (ji3)).size) = true := decide_eq_true (by omega)
            clear c10
            by_cases c12 : (bt (rdOf ByteArray.empty t160 (ji3)) 0) = 48
            · rw [if_pos c12] at H
              have c12b0 : ((bt (rdOf ByteArray.empty t160 (ji3)) 0) == 48) = true := beq_iff_eq.mpr c12
              have c12b1 : ((bt (rdOf ByteArray.empty t160 (ji3)) 0) != 48) = false := bne_eq_false_iff_eq.mpr c12
              clear c12
              by_cases c13 : 1 < ((rdOf ByteArray.empty t160 (ji3)).size : Int)
              · rw [if_pos c13] at H
                have c13b0 : decide (1 < ((rdOf ByteArray.empty t160 (ji3)).size : Int)) = true := decide_eq_true c13
                have c13b1 : decide (1 < (rdOf ByteArray.empty t160 (ji3)).size) = true := decide_eq_true (by omega)
                clear c13
                by_cases c15 : (bt (rdOf ByteArray.empty t160 (ji3)) 1) = 120
                · rw [if_pos c15] at H
                  have c15b0 : ((bt (rdOf ByteArray.empty t160 (ji3)) 1) == 120) = true := beq_iff_eq.mpr c15
                  have c15b1 : ((bt (rdOf ByteArray.empty t160 (ji3)) 1) != 120) = false := bne_eq_false_iff_eq.mpr c15
                  clear c15
                  have H' := Aside0.mk H
                  clear H
                  have p11 : 0 ≤ (0 : Int) := (by omega)
                  have q11 : 0 < (rdOf ByteArray.empty t160 (ji3)).size := (by have : (0 : Int) < ((rdOf ByteArray.empty t160 (ji3)).size : Int) := of_decide_eq_true (by first | (with_reducible assumption) | assumption); omega)
                  have hx11 : ∀ h : 0 < (rdOf ByteArray.empty t160 (ji3)).size, (((rdOf ByteArray.empty t160 (ji3))[0]'h).toNat : Int) = bt (rdOf ByteArray.empty t160 (ji3)) 0 := bt_at (rdOf ByteArray.empty t160 (ji3)) 0
                  clear p11
                  have qi11 : (0 < ((rdOf ByteArray.empty t160 (ji3)).size : Int)) = True := eq_true (of_decide_eq_true (by first | (with_reducible assumption) | assumption))
                  replace q11 := eq_true q11
                  have p14 : 0 ≤ (1 : Int) := (by omega)
                  have q14 : 1 < (rdOf ByteArray.empty t160 (ji3)).size := (by have : (1 : Int) < ((rdOf ByteArray.empty t160 (ji3)).size : Int) := of_decide_eq_true (by first | (with_reducible assumption) | assumption); omega)
                  have hx14 : ∀ h : 1 < (rdOf ByteArray.empty t160 (ji3)).size, (((rdOf ByteArray.empty t160 (ji3))[1]'h).toNat : Int) = bt (rdOf ByteArray.empty t160 (ji3)) 1 := bt_at (rdOf ByteArray.empty t160 (ji3)) 1
                  clear p14
                  have qi14 : (1 < ((rdOf ByteArray.empty t160 (ji3)).size : Int)) = True := eq_true (of_decide_eq_true (by first | (with_reducible assumption) | assumption))
                  replace q14 := eq_true q14
                  go_wp2
                  go_meet
                  case rel => exact ⟨_, (true), (by first | rfl | (simp; done) | (simp [*]; done)), H', ⟨by first | omega | exact Nat.le_refl _⟩, ⟨by repeat (first | (with_reducible first | exact HB.out | apply below_alloc | apply pw_below_drewN | apply below_drew1) | exact HB.out)⟩⟩
                · rw [if_neg c15] at H
                  have c15b0 : ((bt (rdOf ByteArray.empty t160 (ji3)) 1) == 120) = false := beq_eq_false_iff_ne.mpr c15
                  have c15b1 : ((bt (rdOf ByteArray.empty t160 (ji3)) 1) != 120) = true := bne_iff_ne.mpr c15
                  have H' := Aside0.mk H
                  clear H
                  have p11 : 0 ≤ (0 : Int) := (by omega)
                  have q11 : 0 < (rdOf ByteArray.empty t160 (ji3)).size := (by have : (0 : Int) < ((rdOf ByteArray.empty t160 (ji3)).size : Int) := of_decide_eq_true (by first | (with_reducible assumption) | assumption); omega)
                  have hx11 : ∀ h : 0 < (rdOf ByteArray.empty t160 (ji3)).size, (((rdOf ByteArray.empty t160 (ji3))[0]'h).toNat : Int) = bt (rdOf ByteArray.empty t160 (ji3)) 0 := bt_at (rdOf ByteArray.empty t160 (ji3)) 0
                  clear p11
                  have qi11 : (0 < ((rdOf ByteArray.empty t160 (ji3)).size : Int)) = True := eq_true (of_decide_eq_true (by first | (with_reducible assumption) | assumption))
                  replace q11 := eq_true q11
                  have p14 : 0 ≤ (1 : Int) := (by omega)
                  have q14 : 1 < (rdOf ByteArray.empty t160 (ji3)).size := (by have : (1 : Int) < ((rdOf ByteArray.empty t160 (ji3)).size : Int) := of_decide_eq_true (by first | (with_reducible assumption) | assumption); omega)
                  have hx14 : ∀ h : 1 < (rdOf ByteArray.empty t160 (ji3)).size, (((rdOf ByteArray.empty t160 (ji3))[1]'h).toNat : Int) = bt (rdOf ByteArray.empty t160 (ji3)) 1 := bt_at (rdOf ByteArray.empty t160 (ji3)) 1
                  clear p14
                  have qi14 : (1 < ((rdOf ByteArray.empty t160 (ji3)).size : Int)) = True := eq_true (of_decide_eq_true (by first | (with_reducible assumption) | assumption))
                  replace q14 := eq_true q14
                  have p16 : 0 ≤ (1 : Int) := (by omega)
                  have q16 : 1 < (rdOf ByteArray.empty t160 (ji3)).size := (by have : (1 : Int) < ((rdOf ByteArray.empty t160 (ji3)).size : Int) := of_decide_eq_true (by first | (with_reducible assumption) | assumption); omega)
                  have hx16 : ∀ h : 1 < (rdOf ByteArray.empty t160 (ji3)).size, (((rdOf ByteArray.empty t160 (ji3))[1]'h).toNat : Int) = bt (rdOf ByteArray.empty t160 (ji3)) 1 := bt_at (rdOf ByteArray.empty t160 (ji3)) 1
                  clear p16
                  have qi16 : (1 < ((rdOf ByteArray.empty t160 (ji3)).size : Int)) = True := eq_true (of_decide_eq_true (by first | (with_reducible assumption) | assumption))
                  replace q16 := eq_true q16
                  go_wp2
                  go_meet
                  case rel => exact ⟨_, (((bt (rdOf ByteArray.empty t160 (ji3)) 1) == 88)), (by first | rfl | (simp; done) | (simp only [← hji3] <;> (first | rfl | simp)) | (simp [*]; done)), H', ⟨by first | omega | exact Nat.le_refl _⟩, ⟨by repeat (first | (with_reducible first | exact HB.out | apply below_alloc | apply pw_below_drewN | apply below_drew1) | exact HB.out)⟩⟩
              · rw [if_neg c13] at H
                exact absurd H (by simp)
            · rw [if_neg c12] at H
              have c12b0 : ((bt (rdOf ByteArray.empty t160 (ji3)) 0) == 48) = false := beq_eq_false_iff_ne.mpr c12
              have c12b1 : ((bt (rdOf ByteArray.empty t160 (ji3)) 0) != 48) = true := bne_iff_ne.mpr c12
              have H' := Aside0.mk H
              clear H
              have p11 : 0 ≤ (0 : Int) := (by omega)
              have q11 : 0 < (rdOf ByteArray.empty t160 (ji3)).size := (by have : (0 : Int) < ((rdOf ByteArray.empty t160 (ji3)).size : Int) := of_decide_eq_true (by first | (with_reducible assumption) | assumption); omega)
              have hx11 : ∀ h : 0 < (rdOf ByteArray.empty t160 (ji3)).size, (((rdOf ByteArray.empty t160 (ji3))[0]'h).toNat : Int) = bt (rdOf ByteArray.empty t160 (ji3)) 0 := bt_at (rdOf ByteArray.empty t160 (ji3)) 0
              clear p11
              have qi11 : (0 < ((rdOf ByteArray.empty t160 (ji3)).size : Int)) = True := eq_true (of_decide_eq_true (by first | (with_reducible assumption) | assumption))
              replace q11 := eq_true q11
              go_wp2
              go_meet
              case rel => exact ⟨_, (false), (by first | rfl | (simp; done) | (simp [*]; done)), H', ⟨by first | omega | exact Nat.le_refl _⟩, ⟨by repeat (first | (with_reducible first | exact HB.out | apply below_alloc | apply pw_below_drewN | apply below_drew1) | exact HB.out)⟩⟩
          · rw [if_neg c10] at H
            exact absurd H (by simp)
        · rw [if_neg c9] at H
          have c9b0 : decide (2 ≤ ((rdOf ByteArray.empty t160 (ji3)).size : Int)) = false := decide_eq_false c9
          have c9b1 : decide (2 ≤ (rdOf ByteArray.empty t160 (ji3)).size) = false := decide_eq_false (by omega)
          clear c9
          (first | rw [c9b0] | (simp only [i64_w, i32_w]; rw [c9b0]) | skip)
          have H' := Aside0.mk H
          clear H
          go_wp2
          go_meet
          case rel => exact ⟨_, (false), (by first | rfl | (simp; done) | (simp [*]; done)), H', ⟨by first | omega | exact Nat.le_refl _⟩, ⟨by repeat (first | (with_reducible first | exact HB.out | apply below_alloc | apply pw_below_drewN | apply below_drew1) | exact HB.out)⟩⟩
      case rest =>
        clear HC6
        try clear c1
        try clear p1
        try clear q1
        try clear hx1
        try clear qi1
        try clear p2
        try clear c4
        try clear c4b0
        try clear c5
        try clear c5b0
        try clear p6
        try clear c9
        try clear c9b0
        try clear c9b1
        try clear c10
        try clear c10b0
        try clear c10b1
        try clear c11
        try clear p11
        try clear q11
        try clear hx11
        try clear qi11
        try clear c12
        try clear c12b0
        try clear c12b1
        try clear c13
        try clear c13b0
        try clear c13b1
        try clear p14
        try clear q14
        try clear hx14
        try clear qi14
        try clear c15
        try clear c15b0
        try clear c15b1
        try clear p16
        try clear q16
        try clear hx16
        try clear qi16
        try clear hx163_0
        try clear p11
        try clear p14
        try clear p16
        try clear p163
        try clear q11
        try clear q14
        try clear q16
        try clear q163
        obtain ⟨kq, x33_5, rfl, HA, HJ5, HB⟩ := hcut
        cases kq with
        | zero => exact absurd HA.out (by simp [gossamerref8_Ends.j0])
        | succ kj5 =>
          have H := HA.out
          clear HA
          simp only [gossamerref8_Ends.j0] at H
          by_cases c17 : x33_5 = true
          · subst c17
            have H1 : ((gossamerref8_number.f kj5 (rdOf ByteArray.empty t160 (ji3))).bind fun bt164 => (some bt164.2)) = some r := by rw [if_pos rfl] at H; exact H
            clear H
            have H := H1
            clear H1
            replace H := Option.bind_eq_some_iff.mp H
            obtain ⟨⟨t164, t165⟩, A180, H⟩ := H
            replace H : (some t165) = some r := H
            have A18 := Aside0.mk A180
            clear A180
            obtain rfl := Option.some.inj H
            go_wp2_with (first | ((with_reducible refine gate_callee (f := 20) rfl ?_); refine goesL_ (some 36) rfl rfl Tryd.func20 (by kernel_rfl) rfl #[.string (rdOf ByteArray.empty t160 (ji3))] rfl (by (try simp only [List.map_toArray, List.map_cons, List.map_nil]); first | done | (simp only [hji3]; rfl) | rfl | (simp only [List.length_drop, List.length_take]; rfl)) ?_; (with_reducible refine (gossamerref8_number.calls kj5 (rdOf ByteArray.empty t160 (ji3)) t164 t165 _ A18.out).mono ?_); rintro e w19 ⟨rfl, hb⟩; refine ⟨_, rfl, ?_⟩; have n0_ := Aside0.mk (below_step (by repeat (first | (with_reducible first | exact HB.out | apply below_alloc | apply pw_below_drewN | apply below_drew1) | exact HB.out)) hb); clear HB; have HB := n0_; clear n0_; (try clear hb); (try clear hb2); (try clear hk); (try clear hi)))
            go_ret
            exact ⟨by first | rfl | (simp [errW_none, errW_some] <;> rfl) | (simp only [← hji3]; first | rfl | (simp [errW_none, errW_some] <;> rfl)) | (simp [*, errW_none, errW_some] <;> rfl), by repeat (first | (with_reducible first | exact HB.out | apply below_alloc | apply pw_below_drewN | apply below_drew1) | exact HB.out)⟩
          · replace c17 := Bool.eq_false_iff.mpr c17
            subst c17
            have H1 : (gossamerref8_Ends.l0 kj5 (rdOf ByteArray.empty t160 (ji3)) 0) = some r := by rw [if_neg (show ¬ (false = true) by decide)] at H; exact H
            clear H
            have H := H1
            clear H1
            have H' := Aside0.mk H
            clear H
            go_wp2
            go_loopg [7] kj5 (fun kq v7 w' => ∃ (x7_2 : Int), v7 = .int .i64 x7_2 ∧ Aside0 (gossamerref8_Ends.l0 kq (rdOf ByteArray.empty t160 (ji3)) x7_2 = some r) ∧ Aside0 (kq ≤ kj5) ∧ Aside0 (Below w.heap.size w w'))
            case atStart => exact ⟨(0), (by first | rfl | (simp; done) | (simp [*]; done)), H', ⟨Nat.le_refl _⟩, ⟨by repeat (first | (with_reducible first | exact HB.out | apply below_alloc | apply pw_below_drewN | apply below_drew1) | exact HB.out)⟩⟩
            case round =>
              clear H'
              try clear c1
              try clear p1
              try clear q1
              try clear hx1
              try clear qi1
              try clear c2
              try clear p2
              try clear c4
              try clear c4b0
              try clear c5
              try clear c5b0
              try clear p6
              try clear c9
              try clear c9b0
              try clear c9b1
              try clear c10
              try clear c10b0
              try clear c10b1
              try clear c11
              try clear p11
              try clear q11
              try clear hx11
              try clear qi11
              try clear c12
              try clear c12b0
              try clear c12b1
              try clear c13
              try clear c13b0
              try clear c13b1
              try clear p14
              try clear q14
              try clear hx14
              try clear qi14
              try clear c15
              try clear c15b0
              try clear c15b1
              try clear p16
              try clear q16
              try clear hx16
              try clear qi16
              try clear c17
              try clear c19
              try clear hx163_0
              try clear p1
              try clear p11
              try clear p14
              try clear p16
              try clear p163
              try clear p2
              try clear p6
              try clear q1
              try clear q11
              try clear q14
              try clear q16
              try clear q163
              obtain ⟨x7_2, rfl, HA, HK2, HB⟩ := hrel
              cases gk with
              | zero => exact absurd HA.out (by simp [gossamerref8_Ends.l0])
              | succ k2 =>
                have H := HA.out
                clear HA
                simp only [gossamerref8_Ends.l0] at H
                by_cases c20 : x7_2 < ((rdOf ByteArray.empty t160 (ji3)).size : Int)
                · rw [if_pos c20] at H
                  have c20b0 : decide (x7_2 < ((rdOf ByteArray.empty t160 (ji3)).size : Int)) = true := decide_eq_true c20
                  clear c20
                  by_cases c21 : 0 ≤ x7_2
                  · rw [if_pos c21] at H
                    have c21b0 : decide (0 ≤ x7_2) = true := decide_eq_true c21
                    clear c21
                    by_cases c23 : (bt (rdOf ByteArray.empty t160 (ji3)) x7_2) < 48
                    · rw [if_pos c23] at H
                      have c23b0 : decide ((bt (rdOf ByteArray.empty t160 (ji3)) x7_2) < 48) = true := decide_eq_true c23
                      clear c23
                      obtain rfl := Option.some.inj H
                      have p22 : 0 ≤ (x7_2 : Int) := of_decide_eq_true (by first | (with_reducible assumption) | assumption)
                      have q22 : x7_2 < ((rdOf ByteArray.empty t160 (ji3)).size : Int) := of_decide_eq_true (by first | (with_reducible assumption) | assumption)
                      have hx22 := bt_at (rdOf ByteArray.empty t160 (ji3)) x7_2
                      replace p22 := eq_true p22
                      replace q22 := eq_true q22
                      go_wp2
                      go_ret
                      exact ⟨by first | rfl | (simp [errW_none, errW_some] <;> rfl) | (simp only [← hji3]; first | rfl | (simp [errW_none, errW_some] <;> rfl)) | (simp [*, errW_none, errW_some] <;> rfl), by repeat (first | (with_reducible first | exact HB.out | apply below_alloc | apply pw_below_drewN | apply below_drew1) | exact HB.out)⟩
                    · rw [if_neg c23] at H
                      have c23b0 : decide ((bt (rdOf ByteArray.empty t160 (ji3)) x7_2) < 48) = false := decide_eq_false c23
                      clear c23
                      by_cases c25 : (bt (rdOf ByteArray.empty t160 (ji3)) x7_2) > 57
                      · rw [if_pos c25] at H
                        have c25b0 : decide (57 < (bt (rdOf ByteArray.empty t160 (ji3)) x7_2)) = true := decide_eq_true c25
                        clear c25
                        obtain rfl := Option.some.inj H
                        have p22 : 0 ≤ (x7_2 : Int) := of_decide_eq_true (by first | (with_reducible assumption) | assumption)
                        have q22 : x7_2 < ((rdOf ByteArray.empty t160 (ji3)).size : Int) := of_decide_eq_true (by first | (with_reducible assumption) | assumption)
                        have hx22 := bt_at (rdOf ByteArray.empty t160 (ji3)) x7_2
                        replace p22 := eq_true p22
                        replace q22 := eq_true q22
                        have p24 : 0 ≤ (x7_2 : Int) := of_decide_eq_true (by first | (with_reducible assumption) | assumption)
                        have q24 : x7_2 < ((rdOf ByteArray.empty t160 (ji3)).size : Int) := of_decide_eq_true (by first | (with_reducible assumption) | assumption)
                        have hx24 := bt_at (rdOf ByteArray.empty t160 (ji3)) x7_2
                        replace p24 := eq_true p24
                        replace q24 := eq_true q24
                        go_wp2
                        go_ret
                        exact ⟨by first | rfl | (simp [errW_none, errW_some] <;> rfl) | (simp only [← hji3]; first | rfl | (simp [errW_none, errW_some] <;> rfl)) | (simp [*, errW_none, errW_some] <;> rfl), by repeat (first | (with_reducible first | exact HB.out | apply below_alloc | apply pw_below_drewN | apply below_drew1) | exact HB.out)⟩
                      · rw [if_neg c25] at H
                        have c25b0 : decide (57 < (bt (rdOf ByteArray.empty t160 (ji3)) x7_2)) = false := decide_eq_false c25
                        clear c25
                        have H' := Aside0.mk H
                        clear H
                        have p22 : 0 ≤ (x7_2 : Int) := of_decide_eq_true (by first | (with_reducible assumption) | assumption)
                        have q22 : x7_2 < ((rdOf ByteArray.empty t160 (ji3)).size : Int) := of_decide_eq_true (by first | (with_reducible assumption) | assumption)
                        have hx22 := bt_at (rdOf ByteArray.empty t160 (ji3)) x7_2
                        replace p22 := eq_true p22
                        replace q22 := eq_true q22
                        have p24 : 0 ≤ (x7_2 : Int) := of_decide_eq_true (by first | (with_reducible assumption) | assumption)
                        have q24 : x7_2 < ((rdOf ByteArray.empty t160 (ji3)).size : Int) := of_decide_eq_true (by first | (with_reducible assumption) | assumption)
                        have hx24 := bt_at (rdOf ByteArray.empty t160 (ji3)) x7_2
                        replace p24 := eq_true p24
                        replace q24 := eq_true q24
                        go_wp2
                        go_roundg k2
                        case measure => have := HJ5.out; have := HK2.out; omega
                        case rel => exact ⟨(wrap64 (x7_2 + 1)), (by first | rfl | (simp; done) | (simp [*]; done)), H', ⟨by have := HJ5.out; have := HK2.out; omega⟩, ⟨by repeat (first | (with_reducible first | exact HB.out | apply below_alloc | apply pw_below_drewN | apply below_drew1) | exact HB.out)⟩⟩
                  · rw [if_neg c21] at H
                    exact absurd H (by simp)
                · rw [if_neg c20] at H
                  have c20b0 : decide (x7_2 < ((rdOf ByteArray.empty t160 (ji3)).size : Int)) = false := decide_eq_false c20
                  clear c20
                  obtain rfl := Option.some.inj H
                  go_wp2
                  go_ret
                  exact ⟨by first | rfl | (simp [errW_none, errW_some] <;> rfl) | (simp only [← hji3]; first | rfl | (simp [errW_none, errW_some] <;> rfl)) | (simp [*, errW_none, errW_some] <;> rfl), by repeat (first | (with_reducible first | exact HB.out | apply below_alloc | apply pw_below_drewN | apply below_drew1) | exact HB.out)⟩
    · rw [if_neg c5] at H
      exact absurd H (by simp)
  · rw [if_neg c4] at H
    exact absurd H (by simp)

end Go.Proofs.YtamjlbbjemihiaaDoor.PF
