-- WRITTEN BY A PROGRAM OF THIS SESSION (wip/tools/xprint.py, over the kit's print.py).
import Derived.Test.YtamjlbbjemihiaaDoorPFx0
import Derived.Test.YtamjlbbjemihiaaDoorPFx2
import Derived.Test.YtamjlbbjemihiaaDoorPFx5
namespace Go.Proofs.YtamjlbbjemihiaaDoor.PF
open Go.RowKit Go.Proofs.YtamjlbbjemihiaaDoorW.PrintWords Go.Proofs.YtamjlbbjemihiaaDoorW.PrintLast Go.Proofs.YtamjlbbjemihiaaDoorW.PrintMore Go.Proofs.YtamjlbbjemihiaaDoorE
attribute [local go_sem] max2_int min2_int max_two min_two max_three min_three max_four min_four   -- for this text's walks alone
set_option linter.unusedVariables false
set_option linter.unusedSimpArgs false

/-! ### gossamerlaw8_FourTells: function 3 -/
def gossamerlaw8_FourTells.f (k : Nat) (a0 : ByteArray) : Option (Bool) := if (a0.size : Int) > 80 then ((gossamerlaw8_awake.f k).bind fun t166 => (some t166)) else ((ip4_Parse.f k a0).bind fun bt167 => ((gossamerref8_Parse.f k a0).bind fun bt169 => (if bt167.1 = bt169.1 then (if (bt167.2 == bt169.2) = true then ((ip4_Ends.f k a0).bind fun t171 => ((gossamerref8_Ends.f k a0).bind fun t172 => (if (t171 == t172) = true then ((gossamerlaw8_awake.f k).bind fun t173 => (some t173)) else (some false)))) else (some false)) else (some false))))
theorem gossamerlaw8_FourTells.mono : ∀ a0 k, LeO (gossamerlaw8_FourTells.f k a0) (gossamerlaw8_FourTells.f (k + 1) a0) := by
  intro a0 k
  unfold gossamerlaw8_FourTells.f
  repeat' first
      | (with_reducible exact gossamerlaw8_awake.mono _)
      | (with_reducible exact gossamerref8_Ends.mono _ _)
      | (with_reducible exact gossamerref8_Parse.mono _ _)
      | (with_reducible exact ip4_Ends.mono _ _)
      | (with_reducible exact ip4_Parse.mono _ _)
      | (with_reducible exact LeO.refl _)
      | (with_reducible exact LeO.none _)
      | (with_reducible refine LeO.ite ?_ ?_)
      | (with_reducible refine LeO.bind ?_ (fun _ => ?_))
      | exact gossamerlaw8_awake.mono _
      | exact gossamerref8_Ends.mono _ _
      | exact gossamerref8_Parse.mono _ _
      | exact ip4_Ends.mono _ _
      | exact ip4_Parse.mono _ _
      | exact LeO.none _
      | refine LeO.ite ?_ ?_
      | refine LeO.bind ?_ (fun _ => ?_)
set_option maxHeartbeats 8000000 in
set_option maxRecDepth 100000 in
theorem gossamerlaw8_FourTells.calls (k : Nat) (a0 : ByteArray) (r : Bool) (w : World) (hE : EnvOK w) (h : gossamerlaw8_FourTells.f k a0 = some r) :
    Calls Tryd.prog 3 #[.string a0] w fun e w' => e = .returned (.bool r) ∧ Below w.heap.size w w' := by
  have HE := Aside0.mk hE
  clear hE
  have HB := Aside0.mk (Below.refl w.heap.size w)
  have H : (if (a0.size : Int) > 80 then ((gossamerlaw8_awake.f k).bind fun t166 => (some t166)) else ((ip4_Parse.f k a0).bind fun bt167 => ((gossamerref8_Parse.f k a0).bind fun bt169 => (if bt167.1 = bt169.1 then (if (bt167.2 == bt169.2) = true then ((ip4_Ends.f k a0).bind fun t171 => ((gossamerref8_Ends.f k a0).bind fun t172 => (if (t171 == t172) = true then ((gossamerlaw8_awake.f k).bind fun t173 => (some t173)) else (some false)))) else (some false)) else (some false))))) = some r := h
  clear h
  by_cases c2 : (a0.size : Int) > 80
  · rw [if_pos c2] at H
    have c2b0 : decide (80 < (a0.size : Int)) = true := decide_eq_true c2
    have c2b1 : decide (80 < a0.size) = true := decide_eq_true (by omega)
    clear c2
    replace H := Option.bind_eq_some_iff.mp H
    obtain ⟨t166, A30, H⟩ := H
    replace H : (some t166) = some r := H
    have A3 := Aside0.mk A30
    clear A30
    obtain rfl := Option.some.inj H
    go_enter Tryd.func3, Tryd.ntmps3
    go_wp2_with (first | ((with_reducible refine gate_callee (f := 7) rfl ?_); refine goesL_ (some 10) rfl rfl Tryd.func7 (by kernel_rfl) rfl #[] rfl (by (try simp only [List.map_toArray, List.map_cons, List.map_nil]); first | done | rfl | (simp only [List.length_drop, List.length_take]; rfl)) ?_; (with_reducible refine (gossamerlaw8_awake.calls k  t166 _ ?side1 A3.out).mono ?_); (case side1 => exact EnvOK.step HE.out (by repeat (first | (with_reducible first | exact HB.out | apply below_alloc | apply pw_below_drewN | apply below_drew1) | exact HB.out))); rintro e w4 ⟨rfl, hb⟩; refine ⟨_, rfl, ?_⟩; have n0_ := Aside0.mk (below_step (by repeat (first | (with_reducible first | exact HB.out | apply below_alloc | apply pw_below_drewN | apply below_drew1) | exact HB.out)) hb); clear HB; have HB := n0_; clear n0_; (try clear hb); (try clear hb2); (try clear hk); (try clear hi)))
    go_ret
    exact ⟨by first | rfl | (simp [errW_none, errW_some] <;> rfl) | (simp [*, errW_none, errW_some] <;> rfl), by repeat (first | (with_reducible first | exact HB.out | apply below_alloc | apply pw_below_drewN | apply below_drew1) | exact HB.out)⟩
  · rw [if_neg c2] at H
    have c2b0 : decide (80 < (a0.size : Int)) = false := decide_eq_false c2
    have c2b1 : decide (80 < a0.size) = false := decide_eq_false (by omega)
    clear c2
    replace H := Option.bind_eq_some_iff.mp H
    obtain ⟨⟨t167, t168⟩, A50, H⟩ := H
    replace H : ((gossamerref8_Parse.f k a0).bind fun bt169 => (if t167 = bt169.1 then (if (t168 == bt169.2) = true then ((ip4_Ends.f k a0).bind fun t171 => ((gossamerref8_Ends.f k a0).bind fun t172 => (if (t171 == t172) = true then ((gossamerlaw8_awake.f k).bind fun t173 => (some t173)) else (some false)))) else (some false)) else (some false))) = some r := H
    have A5 := Aside0.mk A50
    clear A50
    replace H := Option.bind_eq_some_iff.mp H
    obtain ⟨⟨t169, t170⟩, A60, H⟩ := H
    replace H : (if t167 = t169 then (if (t168 == t170) = true then ((ip4_Ends.f k a0).bind fun t171 => ((gossamerref8_Ends.f k a0).bind fun t172 => (if (t171 == t172) = true then ((gossamerlaw8_awake.f k).bind fun t173 => (some t173)) else (some false)))) else (some false)) else (some false)) = some r := H
    have A6 := Aside0.mk A60
    clear A60
    by_cases c7 : t167 = t169
    · rw [if_pos c7] at H
      have c7b0 : (t167 == t169) = true := beq_iff_eq.mpr c7
      have c7b1 : (t167 != t169) = false := bne_eq_false_iff_eq.mpr c7
      clear c7
      by_cases c8 : (t168 == t170) = true
      · rw [if_pos c8] at H
        have c8b0 : (t168 == t170) = true := c8
        (try (have c8b1 : decide (t168 = t170) = true := by simpa using c8))
        (try (have c8b2 : (t168 == t170) = true := by simpa using c8))
        clear c8
        replace H := Option.bind_eq_some_iff.mp H
        obtain ⟨t171, A90, H⟩ := H
        replace H : ((gossamerref8_Ends.f k a0).bind fun t172 => (if (t171 == t172) = true then ((gossamerlaw8_awake.f k).bind fun t173 => (some t173)) else (some false))) = some r := H
        have A9 := Aside0.mk A90
        clear A90
        replace H := Option.bind_eq_some_iff.mp H
        obtain ⟨t172, A100, H⟩ := H
        replace H : (if (t171 == t172) = true then ((gossamerlaw8_awake.f k).bind fun t173 => (some t173)) else (some false)) = some r := H
        have A10 := Aside0.mk A100
        clear A100
        by_cases c11 : (t171 == t172) = true
        · rw [if_pos c11] at H
          have c11b0 : (t171 == t172) = true := c11
          (try (have c11b1 : decide (t171 = t172) = true := by simpa using c11))
          (try (have c11b2 : (t171 == t172) = true := by simpa using c11))
          clear c11
          replace H := Option.bind_eq_some_iff.mp H
          obtain ⟨t173, A120, H⟩ := H
          replace H : (some t173) = some r := H
          have A12 := Aside0.mk A120
          clear A120
          obtain rfl := Option.some.inj H
          go_enter Tryd.func3, Tryd.ntmps3
          go_wp2_with (first | ((with_reducible refine gate_callee (f := 8) rfl ?_); refine goesL_ (some 13) rfl rfl Tryd.func8 (by kernel_rfl) rfl #[.string a0] rfl (by (try simp only [List.map_toArray, List.map_cons, List.map_nil]); first | done | rfl | (simp only [List.length_drop, List.length_take]; rfl)) ?_; (with_reducible refine (ip4_Parse.calls k a0 t167 t168 _ ?side1 A5.out).mono ?_); (case side1 => exact EnvOK.step HE.out (by repeat (first | (with_reducible first | exact HB.out | apply below_alloc | apply pw_below_drewN | apply below_drew1) | exact HB.out))); rintro e w13 ⟨rfl, hb⟩; refine ⟨_, rfl, ?_⟩; have n0_ := Aside0.mk (below_step (by repeat (first | (with_reducible first | exact HB.out | apply below_alloc | apply pw_below_drewN | apply below_drew1) | exact HB.out)) hb); clear HB; have HB := n0_; clear n0_; (try clear hb); (try clear hb2); (try clear hk); (try clear hi)) | ((with_reducible refine gate_callee (f := 9) rfl ?_); refine goesL_ (some 18) rfl rfl Tryd.func9 (by kernel_rfl) rfl #[.string a0] rfl (by (try simp only [List.map_toArray, List.map_cons, List.map_nil]); first | done | rfl | (simp only [List.length_drop, List.length_take]; rfl)) ?_; (with_reducible refine (gossamerref8_Parse.calls k a0 t169 t170 _ A6.out).mono ?_); rintro e w14 ⟨rfl, hb⟩; refine ⟨_, rfl, ?_⟩; have n0_ := Aside0.mk (below_step (by repeat (first | (with_reducible first | exact HB.out | apply below_alloc | apply pw_below_drewN | apply below_drew1) | exact HB.out)) hb); clear HB; have HB := n0_; clear n0_; (try clear hb); (try clear hb2); (try clear hk); (try clear hi)) | (go_at_call 10; (with_reducible refine (ip4_Ends.calls k a0 t171 _ ?side1 A9.out).mono ?_); (case side1 => exact EnvOK.step HE.out (by repeat (first | (with_reducible first | exact HB.out | apply below_alloc | apply pw_below_drewN | apply below_drew1) | exact HB.out))); rintro e w15 ⟨rfl, hb⟩; have n0_ := Aside0.mk (below_step (by repeat (first | (with_reducible first | exact HB.out | apply below_alloc | apply pw_below_drewN | apply below_drew1) | exact HB.out)) hb); clear HB; have HB := n0_; clear n0_; (try clear hb); (try clear hb2); (try clear hk); (try clear hi)) | (go_at_call 11; (with_reducible refine (gossamerref8_Ends.calls k a0 t172 _ A10.out).mono ?_); rintro e w16 ⟨rfl, hb⟩; have n0_ := Aside0.mk (below_step (by repeat (first | (with_reducible first | exact HB.out | apply below_alloc | apply pw_below_drewN | apply below_drew1) | exact HB.out)) hb); clear HB; have HB := n0_; clear n0_; (try clear hb); (try clear hb2); (try clear hk); (try clear hi)) | (go_at_call 7; (with_reducible refine (gossamerlaw8_awake.calls k  t173 _ ?side1 A12.out).mono ?_); (case side1 => exact EnvOK.step HE.out (by repeat (first | (with_reducible first | exact HB.out | apply below_alloc | apply pw_below_drewN | apply below_drew1) | exact HB.out))); rintro e w17 ⟨rfl, hb⟩; have n0_ := Aside0.mk (below_step (by repeat (first | (with_reducible first | exact HB.out | apply below_alloc | apply pw_below_drewN | apply below_drew1) | exact HB.out)) hb); clear HB; have HB := n0_; clear n0_; (try clear hb); (try clear hb2); (try clear hk); (try clear hi)))
          go_ret
          exact ⟨by first | rfl | (simp [errW_none, errW_some] <;> rfl) | (simp [*, errW_none, errW_some] <;> rfl), by repeat (first | (with_reducible first | exact HB.out | apply below_alloc | apply pw_below_drewN | apply below_drew1) | exact HB.out)⟩
        · rw [if_neg c11] at H
          have c11b0 : (t171 == t172) = false := by simpa using c11
          (try (have c11b1 : decide (t171 = t172) = false := by simpa using c11))
          (try (have c11b2 : (t171 == t172) = false := by simpa using c11))
          (try (have c11b3 : ¬ (t171 = t172) := by simpa using c11))
          clear c11
          obtain rfl := Option.some.inj H
          go_enter Tryd.func3, Tryd.ntmps3
          go_wp2_with (first | ((with_reducible refine gate_callee (f := 8) rfl ?_); refine goesL_ (some 13) rfl rfl Tryd.func8 (by kernel_rfl) rfl #[.string a0] rfl (by (try simp only [List.map_toArray, List.map_cons, List.map_nil]); first | done | rfl | (simp only [List.length_drop, List.length_take]; rfl)) ?_; (with_reducible refine (ip4_Parse.calls k a0 t167 t168 _ ?side1 A5.out).mono ?_); (case side1 => exact EnvOK.step HE.out (by repeat (first | (with_reducible first | exact HB.out | apply below_alloc | apply pw_below_drewN | apply below_drew1) | exact HB.out))); rintro e w18 ⟨rfl, hb⟩; refine ⟨_, rfl, ?_⟩; have n0_ := Aside0.mk (below_step (by repeat (first | (with_reducible first | exact HB.out | apply below_alloc | apply pw_below_drewN | apply below_drew1) | exact HB.out)) hb); clear HB; have HB := n0_; clear n0_; (try clear hb); (try clear hb2); (try clear hk); (try clear hi)) | ((with_reducible refine gate_callee (f := 9) rfl ?_); refine goesL_ (some 18) rfl rfl Tryd.func9 (by kernel_rfl) rfl #[.string a0] rfl (by (try simp only [List.map_toArray, List.map_cons, List.map_nil]); first | done | rfl | (simp only [List.length_drop, List.length_take]; rfl)) ?_; (with_reducible refine (gossamerref8_Parse.calls k a0 t169 t170 _ A6.out).mono ?_); rintro e w19 ⟨rfl, hb⟩; refine ⟨_, rfl, ?_⟩; have n0_ := Aside0.mk (below_step (by repeat (first | (with_reducible first | exact HB.out | apply below_alloc | apply pw_below_drewN | apply below_drew1) | exact HB.out)) hb); clear HB; have HB := n0_; clear n0_; (try clear hb); (try clear hb2); (try clear hk); (try clear hi)) | (go_at_call 10; (with_reducible refine (ip4_Ends.calls k a0 t171 _ ?side1 A9.out).mono ?_); (case side1 => exact EnvOK.step HE.out (by repeat (first | (with_reducible first | exact HB.out | apply below_alloc | apply pw_below_drewN | apply below_drew1) | exact HB.out))); rintro e w20 ⟨rfl, hb⟩; have n0_ := Aside0.mk (below_step (by repeat (first | (with_reducible first | exact HB.out | apply below_alloc | apply pw_below_drewN | apply below_drew1) | exact HB.out)) hb); clear HB; have HB := n0_; clear n0_; (try clear hb); (try clear hb2); (try clear hk); (try clear hi)) | (go_at_call 11; (with_reducible refine (gossamerref8_Ends.calls k a0 t172 _ A10.out).mono ?_); rintro e w21 ⟨rfl, hb⟩; have n0_ := Aside0.mk (below_step (by repeat (first | (with_reducible first | exact HB.out | apply below_alloc | apply pw_below_drewN | apply below_drew1) | exact HB.out)) hb); clear HB; have HB := n0_; clear n0_; (try clear hb); (try clear hb2); (try clear hk); (try clear hi)))
          go_ret
          exact ⟨by first | rfl | (simp [errW_none, errW_some] <;> rfl) | (simp [*, errW_none, errW_some] <;> rfl), by repeat (first | (with_reducible first | exact HB.out | apply below_alloc | apply pw_below_drewN | apply below_drew1) | exact HB.out)⟩
      · rw [if_neg c8] at H
        have c8b0 : (t168 == t170) = false := by simpa using c8
        (try (have c8b1 : decide (t168 = t170) = false := by simpa using c8))
        (try (have c8b2 : (t168 == t170) = false := by simpa using c8))
        (try (have c8b3 : ¬ (t168 = t170) := by simpa using c8))
        clear c8
        obtain rfl := Option.some.inj H
        go_enter Tryd.func3, Tryd.ntmps3
        go_wp2_with (first | ((with_reducible refine gate_callee (f := 8) rfl ?_); refine goesL_ (some 13) rfl rfl Tryd.func8 (by kernel_rfl) rfl #[.string a0] rfl (by (try simp only [List.map_toArray, List.map_cons, List.map_nil]); first | done | rfl | (simp only [List.length_drop, List.length_take]; rfl)) ?_; (with_reducible refine (ip4_Parse.calls k a0 t167 t168 _ ?side1 A5.out).mono ?_); (case side1 => exact EnvOK.step HE.out (by repeat (first | (with_reducible first | exact HB.out | apply below_alloc | apply pw_below_drewN | apply below_drew1) | exact HB.out))); rintro e w22 ⟨rfl, hb⟩; refine ⟨_, rfl, ?_⟩; have n0_ := Aside0.mk (below_step (by repeat (first | (with_reducible first | exact HB.out | apply below_alloc | apply pw_below_drewN | apply below_drew1) | exact HB.out)) hb); clear HB; have HB := n0_; clear n0_; (try clear hb); (try clear hb2); (try clear hk); (try clear hi)) | ((with_reducible refine gate_callee (f := 9) rfl ?_); refine goesL_ (some 18) rfl rfl Tryd.func9 (by kernel_rfl) rfl #[.string a0] rfl (by (try simp only [List.map_toArray, List.map_cons, List.map_nil]); first | done | rfl | (simp only [List.length_drop, List.length_take]; rfl)) ?_; (with_reducible refine (gossamerref8_Parse.calls k a0 t169 t170 _ A6.out).mono ?_); rintro e w23 ⟨rfl, hb⟩; refine ⟨_, rfl, ?_⟩; have n0_ := Aside0.mk (below_step (by repeat (first | (with_reducible first | exact HB.out | apply below_alloc | apply pw_below_drewN | apply below_drew1) | exact HB.out)) hb); clear HB; have HB := n0_; clear n0_; (try clear hb); (try clear hb2); (try clear hk); (try clear hi)))
        go_ret
        exact ⟨by first | rfl | (simp [errW_none, errW_some] <;> rfl) | (simp [*, errW_none, errW_some] <;> rfl), by repeat (first | (with_reducible first | exact HB.out | apply below_alloc | apply pw_below_drewN | apply below_drew1) | exact HB.out)⟩
    · rw [if_neg c7] at H
      have c7b0 : (t167 == t169) = false := beq_eq_false_iff_ne.mpr c7
      have c7b1 : (t167 != t169) = true := bne_iff_ne.mpr c7
      obtain rfl := Option.some.inj H
      go_enter Tryd.func3, Tryd.ntmps3
      go_wp2_with (first | ((with_reducible refine gate_callee (f := 8) rfl ?_); refine goesL_ (some 13) rfl rfl Tryd.func8 (by kernel_rfl) rfl #[.string a0] rfl (by (try simp only [List.map_toArray, List.map_cons, List.map_nil]); first | done | rfl | (simp only [List.length_drop, List.length_take]; rfl)) ?_; (with_reducible refine (ip4_Parse.calls k a0 t167 t168 _ ?side1 A5.out).mono ?_); (case side1 => exact EnvOK.step HE.out (by repeat (first | (with_reducible first | exact HB.out | apply below_alloc | apply pw_below_drewN | apply below_drew1) | exact HB.out))); rintro e w24 ⟨rfl, hb⟩; refine ⟨_, rfl, ?_⟩; have n0_ := Aside0.mk (below_step (by repeat (first | (with_reducible first | exact HB.out | apply below_alloc | apply pw_below_drewN | apply below_drew1) | exact HB.out)) hb); clear HB; have HB := n0_; clear n0_; (try clear hb); (try clear hb2); (try clear hk); (try clear hi)) | ((with_reducible refine gate_callee (f := 9) rfl ?_); refine goesL_ (some 18) rfl rfl Tryd.func9 (by kernel_rfl) rfl #[.string a0] rfl (by (try simp only [List.map_toArray, List.map_cons, List.map_nil]); first | done | rfl | (simp only [List.length_drop, List.length_take]; rfl)) ?_; (with_reducible refine (gossamerref8_Parse.calls k a0 t169 t170 _ A6.out).mono ?_); rintro e w25 ⟨rfl, hb⟩; refine ⟨_, rfl, ?_⟩; have n0_ := Aside0.mk (below_step (by repeat (first | (with_reducible first | exact HB.out | apply below_alloc | apply pw_below_drewN | apply below_drew1) | exact HB.out)) hb); clear HB; have HB := n0_; clear n0_; (try clear hb); (try clear hb2); (try clear hk); (try clear hi)))
      go_ret
      exact ⟨by first | rfl | (simp [errW_none, errW_some] <;> rfl) | (simp [*, errW_none, errW_some] <;> rfl), by repeat (first | (with_reducible first | exact HB.out | apply below_alloc | apply pw_below_drewN | apply below_drew1) | exact HB.out)⟩

/-- THE ONE PURE STATEMENT of gossamerlaw8_FourTells: yours. -/
def gossamerlaw8_FourTells.Pure : Prop := ∀ (a0 : ByteArray), a0.size ≤ 140737488351232 → ∃ k, gossamerlaw8_FourTells.f k a0 = some true
theorem gossamerlaw8_FourTells.walk (P : gossamerlaw8_FourTells.Pure) (a0 : ByteArray) (w : World) (w0 : a0.size ≤ 140737488351232) (hE : EnvOK w) :
    Calls Tryd.prog 3 #[.string a0] w fun e w' => e = .returned (.bool true) ∧ Below w.heap.size w w' := by
  obtain ⟨k, h⟩ := P a0 w0
  refine (gossamerlaw8_FourTells.calls k a0 true w hE h).mono ?_
  rintro e w' ⟨rfl, hd⟩
  exact ⟨rfl, hd⟩

/-! ### gossamerref8_Digits: function 25 -/
def gossamerref8_Digits.f : Nat → Int → Option (ByteArray)
  | 0, _ => none
  | k + 1, a0 => if a0 < 0 then ((gossamerref8_Digits.f k (wrap64 (-(wrap64 (Int.tdiv a0 10))))).bind fun t174 => (if 1 + t174.size ≤ 9223372036854775807 then ((gossamerref8_Digits.f k (wrap64 (-(Int.tmod a0 10)))).bind fun t175 => (if ((⟨#[45]⟩ : ByteArray) ++ t174).size + t175.size ≤ 9223372036854775807 then (some (((⟨#[45]⟩ : ByteArray) ++ t174) ++ t175)) else (none))) else (none))) else (if a0 < 10 then (some (strOfNums (([(wrap64 (48 + a0)) % 256] : List Int)))) else ((gossamerref8_Digits.f k (wrap64 (Int.tdiv a0 10))).bind fun t179 => ((some (([(wrap64 (48 + (Int.tmod a0 10))) % 256] : List Int) : List Int)).bind fun y180 => (if t179.size + (strOfNums y180).size ≤ 9223372036854775807 then (some (t179 ++ (strOfNums y180))) else (none)))))
theorem gossamerref8_Digits.mono_l : ∀ k, (∀ y0, LeO (gossamerref8_Digits.f k y0) (gossamerref8_Digits.f (k + 1) y0))
  | 0 => fun _ r h => by simp [gossamerref8_Digits.f] at h
  | k + 1 => by
    have ih0 := gossamerref8_Digits.mono_l k
    · intro y0
      unfold gossamerref8_Digits.f
      repeat' first
      | (with_reducible exact ih0 _)
      | (with_reducible exact LeO.refl _)
      | (with_reducible exact LeO.none _)
      | (with_reducible refine LeO.ite ?_ ?_)
      | (with_reducible refine LeO.bind ?_ (fun _ => ?_))
      | exact ih0 _
      | exact LeO.none _
      | refine LeO.ite ?_ ?_
      | refine LeO.bind ?_ (fun _ => ?_)
theorem gossamerref8_Digits.mono : ∀ a0 k, LeO (gossamerref8_Digits.f k a0) (gossamerref8_Digits.f (k + 1) a0) := by
  intro a0 k
  have ih0 := gossamerref8_Digits.mono_l k
  exact ih0 a0
def gossamerref8_Digits.T5 : Bool × List (List Nat × List Nat) := (true, [([], []), ([0], [0]), ([1], [1]), ([], []), ([3], [3]), ([4], [4]), ([5], [5]), ([6], [6]), ([7], [7]), ([2, 8], [2, 8]), ([9, 2, 0, 1, 2, 3, 4, 5, 6, 7, 8, 9], [9])])
def gossamerref8_Digits.B5 : List Nat := [0, 1, 3, 0, 8, 24, 56, 120, 248, 511, 1023]
theorem gossamerref8_Digits.tab5 : rtab .any (opsOf Tryd.f25 5) = gossamerref8_Digits.T5 := by kernel_rfl
theorem gossamerref8_Digits.bits5 : waitsOk gossamerref8_Digits.T5.2 gossamerref8_Digits.B5 = true := by kernel_rfl
set_option maxHeartbeats 8000000 in
set_option maxRecDepth 100000 in
theorem gossamerref8_Digits.calls (k : Nat) : ∀ (a0 : Int) (r : ByteArray) (w : World) (h : gossamerref8_Digits.f k a0 = some r),
    Calls Tryd.prog 25 #[.int .i64 a0] w fun e w' => e = .returned (.string r) ∧ Below w.heap.size w w' := by
  induction k using Nat.strongRecOn with
  | _ k ih =>
  intro a0 r w h
  cases k with
  | zero => exact absurd h (by simp [gossamerref8_Digits.f])
  | succ k =>
  simp only [gossamerref8_Digits.f] at h
  have HB := Aside0.mk (Below.refl w.heap.size w)
  have H : (if a0 < 0 then ((gossamerref8_Digits.f k (wrap64 (-(wrap64 (Int.tdiv a0 10))))).bind fun t174 => (if 1 + t174.size ≤ 9223372036854775807 then ((gossamerref8_Digits.f k (wrap64 (-(Int.tmod a0 10)))).bind fun t175 => (if ((⟨#[45]⟩ : ByteArray) ++ t174).size + t175.size ≤ 9223372036854775807 then (some (((⟨#[45]⟩ : ByteArray) ++ t174) ++ t175)) else (none))) else (none))) else (if a0 < 10 then (some (strOfNums (([(wrap64 (48 + a0)) % 256] : List Int)))) else ((gossamerref8_Digits.f k (wrap64 (Int.tdiv a0 10))).bind fun t179 => ((some (([(wrap64 (48 + (Int.tmod a0 10))) % 256] : List Int) : List Int)).bind fun y180 => (if t179.size + (strOfNums y180).size ≤ 9223372036854775807 then (some (t179 ++ (strOfNums y180))) else (none)))))) = some r := h
  clear h
  by_cases c2 : a0 < 0
  · rw [if_pos c2] at H
    have c2b0 : decide (a0 < 0) = true := decide_eq_true c2
    clear c2
    replace H := Option.bind_eq_some_iff.mp H
    obtain ⟨t174, A30, H⟩ := H
    replace H : (if 1 + t174.size ≤ 9223372036854775807 then ((gossamerref8_Digits.f k (wrap64 (-(Int.tmod a0 10)))).bind fun t175 => (if ((⟨#[45]⟩ : ByteArray) ++ t174).size + t175.size ≤ 9223372036854775807 then (some (((⟨#[45]⟩ : ByteArray) ++ t174) ++ t175)) else (none))) else (none)) = some r := H
    have A3 := Aside0.mk A30
    clear A30
    by_cases c4 : 1 + t174.size ≤ 9223372036854775807
    · rw [if_pos c4] at H
      have c4b0 := eq_true c4
      have c4b1 : decide (1 + t174.size ≤ 9223372036854775807) = true := decide_eq_true c4
      try have c4b2 : (9223372036854775807 < 1 + t174.size) = False := eq_false (Nat.not_lt.2 c4)
      replace H := Option.bind_eq_some_iff.mp H
      obtain ⟨t175, A50, H⟩ := H
      replace H : (if ((⟨#[45]⟩ : ByteArray) ++ t174).size + t175.size ≤ 9223372036854775807 then (some (((⟨#[45]⟩ : ByteArray) ++ t174) ++ t175)) else (none)) = some r := H
      have A5 := Aside0.mk A50
      clear A50
      by_cases c6 : ((⟨#[45]⟩ : ByteArray) ++ t174).size + t175.size ≤ 9223372036854775807
      · rw [if_pos c6] at H
        have c6b0 := eq_true c6
        have c6b0v := c6b0
        (try simp only [ByteArray.size_append, Int.natCast_add, show ByteArray.size ⟨#[45]⟩ = 1 from rfl, Int.cast_ofNat_Int] at c6b0v)
        have c6b1 : decide (((⟨#[45]⟩ : ByteArray) ++ t174).size + t175.size ≤ 9223372036854775807) = true := decide_eq_true c6
        (try have c6b1v := c6b1)
        (try simp only [ByteArray.size_append, Int.natCast_add, show ByteArray.size ⟨#[45]⟩ = 1 from rfl, Int.cast_ofNat_Int] at c6b1v)
        try have c6b2 : (9223372036854775807 < ((⟨#[45]⟩ : ByteArray) ++ t174).size + t175.size) = False := eq_false (Nat.not_lt.2 c6)
        (try have c6b2v := c6b2)
        (try simp only [ByteArray.size_append, Int.natCast_add, show ByteArray.size ⟨#[45]⟩ = 1 from rfl, Int.cast_ofNat_Int] at c6b2v)
        obtain rfl := Option.some.inj H
        go_enter Tryd.func25, Tryd.ntmps25
        go_wp2_with (first | ((with_reducible refine gate_callee (f := 25) rfl ?_); refine goesL_ (some 8) rfl rfl Tryd.func25 (by kernel_rfl) rfl #[.int .i64 (wrap64 (-(wrap64 (Int.tdiv a0 10))))] rfl (by (try simp only [List.map_toArray, List.map_cons, List.map_nil]); first | done | rfl | (simp only [List.length_drop, List.length_take]; rfl)) ?_; (with_reducible refine (ih k (by omega) (wrap64 (-(wrap64 (Int.tdiv a0 10)))) t174 _ A3.out).mono ?_); rintro e w7 ⟨rfl, hb⟩; refine ⟨_, rfl, ?_⟩; have n0_ := Aside0.mk (below_step (by repeat (first | (with_reducible first | exact HB.out | apply below_alloc | apply pw_below_drewN | apply below_drew1) | exact HB.out)) hb); clear HB; have HB := n0_; clear n0_; (try clear hb); (try clear hb2); (try clear hk); (try clear hi)) | ((with_reducible refine gate_callee (f := 25) rfl ?_); refine goesL_ (some 13) rfl rfl Tryd.func25 (by kernel_rfl) rfl #[.int .i64 (wrap64 (-(Int.tmod a0 10)))] rfl (by (try simp only [List.map_toArray, List.map_cons, List.map_nil]); first | done | rfl | (simp only [List.length_drop, List.length_take]; rfl)) ?_; (with_reducible refine (ih k (by omega) (wrap64 (-(Int.tmod a0 10))) t175 _ A5.out).mono ?_); rintro e w8 ⟨rfl, hb⟩; refine ⟨_, rfl, ?_⟩; have n0_ := Aside0.mk (below_step (by repeat (first | (with_reducible first | exact HB.out | apply below_alloc | apply pw_below_drewN | apply below_drew1) | exact HB.out)) hb); clear HB; have HB := n0_; clear n0_; (try clear hb); (try clear hb2); (try clear hk); (try clear hi)))
        go_ret
        exact ⟨by first | rfl | (simp [errW_none, errW_some] <;> rfl) | (simp [*, errW_none, errW_some] <;> rfl), by repeat (first | (with_reducible first | exact HB.out | apply below_alloc | apply pw_below_drewN | apply below_drew1) | exact HB.out)⟩
      · rw [if_neg c6] at H
        exact absurd H (by simp)
    · rw [if_neg c4] at H
      exact absurd H (by simp)
  · rw [if_neg c2] at H
    have c2b0 : decide (a0 < 0) = false := decide_eq_false c2
    clear c2
    by_cases c9 : a0 < 10
    · rw [if_pos c9] at H
      have c9b0 : decide (a0 < 10) = true := decide_eq_true c9
      clear c9
      obtain ⟨y176, hy176⟩ : ∃ y_ : List Int, y_ = (([(wrap64 (48 + a0)) % 256] : List Int)) := ⟨_, rfl⟩
      replace H : (some (strOfNums y176)) = some r := by first | (rw [hy176]; with_reducible exact H) | (have H2_ := (Option.bind_some _ _).symm.trans H; rw [hy176]; with_reducible exact H2_) | (have H2_ := (Option.bind_some _ _).symm.trans H; with_reducible exact H2_) | with_reducible exact H | (rw [hy176]; exact H) | exact H
      have Ny176 := Aside0.mk hy176
      clear hy176
      obtain rfl := Option.some.inj H
      go_enter Tryd.func25, Tryd.ntmps25
      go_wp2_with (first | ((with_reducible refine gate_dst (N := 20) rfl ?_); refine Kd.R_lit (Kd.int .u8) _ 5 ?hg (N := 20) ?hd (xs := ([(wrap64 (48 + a0)) % 256] : List Int)) (inner := [.int .u8 ((wrap64 (48 + a0)) % 256)]) (ok := fun _ => True) (okp := fun _ => True) ?hr ?hp (fun _ hk => hk) trivial (Below.refl _ _) (Nat.le_refl _) (by simp) ?_; (case hd => rfl); (case hg => rfl); (case hr => first | (go_simp; done) | (go_simp; rfl)); (case hp => exact (Reps.one (show Kd.M (Kd.int .u8) _ _ _ ((wrap64 (48 + a0)) % 256) [.int .u8 ((wrap64 (48 + a0)) % 256)] from rfl) (Reps.none _ _))); intro v177 w10 ho11 hb hg_ hnew_; clear hg_ hnew_; (first | rw [← Ny176.out] at ho11 | (simp only [Int.reduceToNat] at ho11; rw [← Ny176.out] at ho11)); have n0_ := Aside0.mk (Kd.R_lower ho11 (below_size (by repeat (first | (with_reducible first | exact HB.out | apply below_alloc | apply pw_below_drewN | apply below_drew1) | exact HB.out)))); have n1_ := Aside0.mk (below_step (by repeat (first | (with_reducible first | exact HB.out | apply below_alloc | apply pw_below_drewN | apply below_drew1) | exact HB.out)) hb); clear HB; have HO178 := n0_; have HB := n1_; clear n0_ n1_; clear hb ho11; have hcv12 := own_string (P := Tryd.prog) Tryd.underlying48 Tryd.underlying5 Tryd.underlying9 (Kd.own_of_R HO178.out)))
      go_ret
      exact ⟨by first | rfl | (simp [errW_none, errW_some] <;> rfl) | (simp [*, errW_none, errW_some] <;> rfl), by repeat (first | (with_reducible first | exact HB.out | apply below_alloc | apply pw_below_drewN | apply below_drew1) | exact HB.out)⟩
    · rw [if_neg c9] at H
      have c9b0 : decide (a0 < 10) = false := decide_eq_false c9
      clear c9
      replace H := Option.bind_eq_some_iff.mp H
      obtain ⟨t179, A130, H⟩ := H
      replace H : ((some (([(wrap64 (48 + (Int.tmod a0 10))) % 256] : List Int) : List Int)).bind fun y180 => (if t179.size + (strOfNums y180).size ≤ 9223372036854775807 then (some (t179 ++ (strOfNums y180))) else (none))) = some r := H
      have A13 := Aside0.mk A130
      clear A130
      obtain ⟨y180, hy180⟩ : ∃ y_ : List Int, y_ = (([(wrap64 (48 + (Int.tmod a0 10))) % 256] : List Int)) := ⟨_, rfl⟩
      replace H : (if t179.size + (strOfNums y180).size ≤ 9223372036854775807 then (some (t179 ++ (strOfNums y180))) else (none)) = some r := by first | (rw [hy180]; with_reducible exact H) | (have H2_ := (Option.bind_some _ _).symm.trans H; rw [hy180]; with_reducible exact H2_) | (have H2_ := (Option.bind_some _ _).symm.trans H; with_reducible exact H2_) | with_reducible exact H | (rw [hy180]; exact H) | exact H
      have Ny180 := Aside0.mk hy180
      clear hy180
      by_cases c14 : t179.size + (strOfNums y180).size ≤ 9223372036854775807
      · rw [if_pos c14] at H
        have c14b0 := eq_true c14
        have c14b1 : decide (t179.size + (strOfNums y180).size ≤ 9223372036854775807) = true := decide_eq_true c14
        try have c14b2 : (9223372036854775807 < t179.size + (strOfNums y180).size) = False := eq_false (Nat.not_lt.2 c14)
        obtain rfl := Option.some.inj H
        go_enter Tryd.func25, Tryd.ntmps25
        try go_wp2
        have n0_ := Aside0.mk (below_drew1 HB.out)
        clear HB
        have HB := n0_
        clear n0_
        refine start_ (n := 11) (S := fun w' => True) (ds := []) #[false, false, false, false, false, false, false, false, false, false, false] (by kernel_rfl) rfl rfl trivial (fun hHeld => ?_); refine with_tabW gossamerref8_Digits.tab5 gossamerref8_Digits.bits5 (fun HT_ HW_ => ?_)
        generalize w.drew = w15 at HB hHeld ⊢
        refine pure_ (i := 0) (N := some 22) (v := ?_) (a' := ?_) #[true, false, false, false, false, false, false, false, false, false, false] rfl rfl (any_of HT_.out (by kernel_rfl)) (fun _ _ _ h => h) (Or.inl ⟨by rfl, ?_⟩) ?_ ?_
        rotate_left
        · intro w'
          go_simp
          with_reducible rfl
        rotate_left
        · simp only [Act.put, List.setIfInBounds_toArray, List.set_cons_zero, List.set_cons_succ, i64_w, i32_w]
          rfl
        refine pure_ (i := 1) (N := some 23) (v := ?_) (a' := ?_) #[true, true, false, false, false, false, false, false, false, false, false] rfl rfl (any_of HT_.out (by kernel_rfl)) (fun _ _ _ h => h) (Or.inl ⟨by rfl, ?_⟩) ?_ ?_
        rotate_left
        · intro w'
          go_simp
          with_reducible rfl
        rotate_left
        · simp only [Act.put, List.setIfInBounds_toArray, List.set_cons_zero, List.set_cons_succ, i64_w, i32_w]
          rfl
        refine pure_ (i := 3) (N := some 25) (v := ?_) (a' := ?_) #[true, true, false, true, false, false, false, false, false, false, false] rfl rfl (any_of HT_.out (by kernel_rfl)) (fun _ _ _ h => h) (Or.inl ⟨by rfl, ?_⟩) ?_ ?_
        rotate_left
        · intro w'
          go_simp
          with_reducible rfl
        rotate_left
        · simp only [Act.put, List.setIfInBounds_toArray, List.set_cons_zero, List.set_cons_succ, i64_w, i32_w]
          rfl
        refine pure_ (i := 4) (N := some 26) (v := ?_) (a' := ?_) #[true, true, false, true, true, false, false, false, false, false, false] rfl rfl (any_of HT_.out (by kernel_rfl)) (fun _ _ _ h => h) (Or.inl ⟨by rfl, ?_⟩) ?_ ?_
        rotate_left
        · intro w'
          go_simp
          with_reducible rfl
        rotate_left
        · simp only [Act.put, List.setIfInBounds_toArray, List.set_cons_zero, List.set_cons_succ, i64_w, i32_w]
          rfl
        refine pure_ (i := 5) (N := some 27) (v := ?_) (a' := ?_) #[true, true, false, true, true, true, false, false, false, false, false] rfl rfl (any_of HT_.out (by kernel_rfl)) (fun _ _ _ h => h) (Or.inl ⟨by rfl, ?_⟩) ?_ ?_
        rotate_left
        · intro w'
          go_simp
          with_reducible rfl
        rotate_left
        · simp only [Act.put, List.setIfInBounds_toArray, List.set_cons_zero, List.set_cons_succ, i64_w, i32_w]
          rfl
        refine pure_ (i := 6) (N := some 28) (v := ?_) (a' := ?_) #[true, true, false, true, true, true, true, false, false, false, false] rfl rfl (any_of HT_.out (by kernel_rfl)) (fun _ _ _ h => h) (Or.inl ⟨by rfl, ?_⟩) ?_ ?_
        rotate_left
        · intro w'
          go_simp
          with_reducible rfl
        rotate_left
        · simp only [Act.put, List.setIfInBounds_toArray, List.set_cons_zero, List.set_cons_succ, i64_w, i32_w]
          rfl
        refine join_ (σ := Value) 2 #[true, true, true, true, true, true, true, true, true, false, false] (fun s_ => [(24, .string t179), (29, s_), (30, .string (strOfNums y180))]) (fun s_ w' => (Kd.R (Kd.int .u8) 5 w' w.heap.size (fun _ => True) s_ y180) ∧ (Below w.heap.size w w')) ?_ ?_
        rotate_left
        · intro hCont
          refine two_ (i := 2) (j := 7) (Ni := some 24) (Nj := some 29) #[true, true, true, true, true, true, true, false, false, false, false] #[true, true, false, true, true, true, true, true, false, false, false] rfl rfl rfl rfl (two_of HT_.out (by kernel_rfl)) (by decide) (by decide) (fun K hK => ?_) (fun K hK => ?_)
          · skip
            refine goes_ Tryd.func25 (by kernel_rfl) rfl #[.int .i64 (wrap64 (Int.tdiv a0 10))] (by rfl) rfl rfl (by (try simp only [List.map_toArray, List.map_cons, List.map_nil]); first | done | rfl | (simp only [List.length_drop, List.length_take]; rfl)) ?_
            with_reducible refine (ih k (by omega) (wrap64 (Int.tdiv a0 10)) t179 _ A13.out).mono ?_
            rintro e w16 ⟨rfl, hb⟩
            refine ⟨_, rfl, ?_⟩
            have n0_ := Aside0.mk (below_step (by repeat (first | (with_reducible first | exact HB.out | apply below_alloc | apply pw_below_drewN | apply below_drew1) | exact HB.out)) hb)
            clear HB
            have HB := n0_
            clear n0_
            (try clear hb)
            (try clear hb2)
            (try clear hk)
            (try clear hi)
            refine hK.out _ _ trivial (fun hHeld => ?_)
            clear hK K
            refine norm_ (a' := ?_) ?_ ?_
            rotate_left
            · show Act.put _ (some 24) _ = _
              simp only [Act.put, List.setIfInBounds_toArray, List.set_cons_zero, List.set_cons_succ, i64_w, i32_w]
              rfl
            refine one_ (i := 7) (N := some 29) #[true, true, true, true, true, true, true, true, false, false, false] rfl rfl (one_of HT_.out (by kernel_rfl)) (by decide) (fun K hK => ?_)
            refine Kd.R_lit_step (Kd.int .u8) _ 5 ?hg (N := 29) ?hd (xs := ([(wrap64 (48 + (Int.tmod a0 10))) % 256] : List Int)) (inner := [.int .u8 ((wrap64 (48 + (Int.tmod a0 10))) % 256)]) (ok := fun _ => True) (okp := fun _ => True) ?hr ?hp (fun _ hk => hk) trivial (Below.refl _ _) (Nat.le_refl _) (by simp) ?_; (case hd => rfl); (case hg => rfl); (case hr => first | (go_simp; done) | (go_simp; rfl)); (case hp => exact (Reps.one (show Kd.M (Kd.int .u8) _ _ _ ((wrap64 (48 + (Int.tmod a0 10))) % 256) [.int .u8 ((wrap64 (48 + (Int.tmod a0 10))) % 256)] from rfl) (Reps.none _ _)))
            intro v181 w17 ho18 hb hg_ hnew_
            clear hg_ hnew_
            (first | rw [← Ny180.out] at ho18 | (simp only [Int.reduceToNat] at ho18; rw [← Ny180.out] at ho18))
            have n0_ := Aside0.mk (Kd.R_lower ho18 (below_size (by repeat (first | (with_reducible first | exact HB.out | apply below_alloc | apply pw_below_drewN | apply below_drew1) | exact HB.out))))
            have n1_ := Aside0.mk (below_step (by repeat (first | (with_reducible first | exact HB.out | apply below_alloc | apply pw_below_drewN | apply below_drew1) | exact HB.out)) hb)
            clear HB
            have HO182 := n0_
            have HB := n1_
            clear n0_ n1_
            clear hb ho18
            refine hK.out _ _ trivial (fun hHeld => ?_)
            clear hK K
            refine norm_ (a' := ?_) ?_ ?_
            rotate_left
            · show Act.put _ (some 29) _ = _
              simp only [Act.put, List.setIfInBounds_toArray, List.set_cons_zero, List.set_cons_succ, i64_w, i32_w]
              rfl
            refine one_ (i := 8) (N := some 30) #[true, true, true, true, true, true, true, true, true, false, false] rfl rfl (one_of HT_.out (by kernel_rfl)) (by decide) (fun K hK => ?_)
            have hcv19 := own_string (P := Tryd.prog) Tryd.underlying48 Tryd.underlying5 Tryd.underlying9 (Kd.own_of_R HO182.out)
            refine value_ (w1 := ?_) (v := ?_) (by rfl) rfl ?_ ?_
            rotate_left 2
            · go_simp
              constructor
              · rfl
              · rfl
            clear hcv19
            refine hK.out _ _ trivial (fun hHeld => ?_)
            clear hK K
            refine norm_ (a' := ?_) ?_ ?_
            rotate_left
            · show Act.put _ (some 30) _ = _
              simp only [Act.put, List.setIfInBounds_toArray, List.set_cons_zero, List.set_cons_succ, i64_w, i32_w]
              rfl
            exact norm_ (by simp only [putAll, Act.put, List.setIfInBounds_toArray, List.set_cons_zero, List.set_cons_succ]) (hCont (v181) _ ⟨(by (with_reducible repeat (first | apply Kd.R_alloc | apply Kd.R_drewN | apply Kd.R_drew)); exact HO182.out), (by repeat (first | (with_reducible first | exact HB.out | apply below_alloc | apply pw_below_drewN | apply below_drew1) | exact HB.out))⟩)
          · skip
            refine Kd.R_lit_step (Kd.int .u8) _ 5 ?hg (N := 29) ?hd (xs := ([(wrap64 (48 + (Int.tmod a0 10))) % 256] : List Int)) (inner := [.int .u8 ((wrap64 (48 + (Int.tmod a0 10))) % 256)]) (ok := fun _ => True) (okp := fun _ => True) ?hr ?hp (fun _ hk => hk) trivial (Below.refl _ _) (Nat.le_refl _) (by simp) ?_; (case hd => rfl); (case hg => rfl); (case hr => first | (go_simp; done) | (go_simp; rfl)); (case hp => exact (Reps.one (show Kd.M (Kd.int .u8) _ _ _ ((wrap64 (48 + (Int.tmod a0 10))) % 256) [.int .u8 ((wrap64 (48 + (Int.tmod a0 10))) % 256)] from rfl) (Reps.none _ _)))
            intro v181 w16 ho17 hb hg_ hnew_
            clear hg_ hnew_
            (first | rw [← Ny180.out] at ho17 | (simp only [Int.reduceToNat] at ho17; rw [← Ny180.out] at ho17))
            have n0_ := Aside0.mk (Kd.R_lower ho17 (below_size (by repeat (first | (with_reducible first | exact HB.out | apply below_alloc | apply pw_below_drewN | apply below_drew1) | exact HB.out))))
            have n1_ := Aside0.mk (below_step (by repeat (first | (with_reducible first | exact HB.out | apply below_alloc | apply pw_below_drewN | apply below_drew1) | exact HB.out)) hb)
            clear HB
            have HO182 := n0_
            have HB := n1_
            clear n0_ n1_
            clear hb ho17
            refine hK.out _ _ trivial (fun hHeld => ?_)
            clear hK K
            refine norm_ (a' := ?_) ?_ ?_
            rotate_left
            · show Act.put _ (some 29) _ = _
              simp only [Act.put, List.setIfInBounds_toArray, List.set_cons_zero, List.set_cons_succ, i64_w, i32_w]
              rfl
            refine two_ (i := 2) (j := 8) (Ni := some 24) (Nj := some 30) #[true, true, true, true, true, true, true, true, false, false, false] #[true, true, false, true, true, true, true, true, true, false, false] rfl rfl rfl rfl (two_of HT_.out (by kernel_rfl)) (by decide) (by decide) (fun K hK => ?_) (fun K hK => ?_)
            · skip
              refine goes_ Tryd.func25 (by kernel_rfl) rfl #[.int .i64 (wrap64 (Int.tdiv a0 10))] (by rfl) rfl rfl (by (try simp only [List.map_toArray, List.map_cons, List.map_nil]); first | done | rfl | (simp only [List.length_drop, List.length_take]; rfl)) ?_
              with_reducible refine (ih k (by omega) (wrap64 (Int.tdiv a0 10)) t179 _ A13.out).mono ?_
              rintro e w18 ⟨rfl, hb⟩
              refine ⟨_, rfl, ?_⟩
              have n0_ := Aside0.mk (Kd.R_below (by (with_reducible repeat (first | apply Kd.R_alloc | apply Kd.R_drewN | apply Kd.R_drew)); exact HO182.out) hb)
              have n1_ := Aside0.mk (below_step (by repeat (first | (with_reducible first | exact HB.out | apply below_alloc | apply pw_below_drewN | apply below_drew1) | exact HB.out)) hb)
              clear HO182
              clear HB
              have HO182 := n0_
              have HB := n1_
              clear n0_ n1_
              (try clear hb)
              (try clear hb2)
              (try clear hk)
              (try clear hi)
              refine hK.out _ _ trivial (fun hHeld => ?_)
              clear hK K
              refine norm_ (a' := ?_) ?_ ?_
              rotate_left
              · show Act.put _ (some 24) _ = _
                simp only [Act.put, List.setIfInBounds_toArray, List.set_cons_zero, List.set_cons_succ, i64_w, i32_w]
                rfl
              refine one_ (i := 8) (N := some 30) #[true, true, true, true, true, true, true, true, true, false, false] rfl rfl (one_of HT_.out (by kernel_rfl)) (by decide) (fun K hK => ?_)
              have hcv19 := own_string (P := Tryd.prog) Tryd.underlying48 Tryd.underlying5 Tryd.underlying9 (Kd.own_of_R HO182.out)
              refine value_ (w1 := ?_) (v := ?_) (by rfl) rfl ?_ ?_
              rotate_left 2
              · go_simp
                constructor
                · rfl
                · rfl
              clear hcv19
              refine hK.out _ _ trivial (fun hHeld => ?_)
              clear hK K
              refine norm_ (a' := ?_) ?_ ?_
              rotate_left
              · show Act.put _ (some 30) _ = _
                simp only [Act.put, List.setIfInBounds_toArray, List.set_cons_zero, List.set_cons_succ, i64_w, i32_w]
                rfl
              exact norm_ (by simp only [putAll, Act.put, List.setIfInBounds_toArray, List.set_cons_zero, List.set_cons_succ]) (hCont (v181) _ ⟨(by (with_reducible repeat (first | apply Kd.R_alloc | apply Kd.R_drewN | apply Kd.R_drew)); exact HO182.out), (by repeat (first | (with_reducible first | exact HB.out | apply below_alloc | apply pw_below_drewN | apply below_drew1) | exact HB.out))⟩)
            · skip
              have hcv18 := own_string (P := Tryd.prog) Tryd.underlying48 Tryd.underlying5 Tryd.underlying9 (Kd.own_of_R HO182.out)
              refine value_ (w1 := ?_) (v := ?_) (by rfl) rfl ?_ ?_
              rotate_left 2
              · go_simp
                constructor
                · rfl
                · rfl
              clear hcv18
              refine hK.out _ _ trivial (fun hHeld => ?_)
              clear hK K
              refine norm_ (a' := ?_) ?_ ?_
              rotate_left
              · show Act.put _ (some 30) _ = _
                simp only [Act.put, List.setIfInBounds_toArray, List.set_cons_zero, List.set_cons_succ, i64_w, i32_w]
                rfl
              refine one_ (i := 2) (N := some 24) #[true, true, true, true, true, true, true, true, true, false, false] rfl rfl (one_of HT_.out (by kernel_rfl)) (by decide) (fun K hK => ?_)
              refine goes_ Tryd.func25 (by kernel_rfl) rfl #[.int .i64 (wrap64 (Int.tdiv a0 10))] (by rfl) rfl rfl (by (try simp only [List.map_toArray, List.map_cons, List.map_nil]); first | done | rfl | (simp only [List.length_drop, List.length_take]; rfl)) ?_
              with_reducible refine (ih k (by omega) (wrap64 (Int.tdiv a0 10)) t179 _ A13.out).mono ?_
              rintro e w19 ⟨rfl, hb⟩
              refine ⟨_, rfl, ?_⟩
              have n0_ := Aside0.mk (Kd.R_below (by (with_reducible repeat (first | apply Kd.R_alloc | apply Kd.R_drewN | apply Kd.R_drew)); exact HO182.out) hb)
              have n1_ := Aside0.mk (below_step (by repeat (first | (with_reducible first | exact HB.out | apply below_alloc | apply pw_below_drewN | apply below_drew1) | exact HB.out)) hb)
              clear HO182
              clear HB
              have HO182 := n0_
              have HB := n1_
              clear n0_ n1_
              (try clear hb)
              (try clear hb2)
              (try clear hk)
              (try clear hi)
              refine hK.out _ _ trivial (fun hHeld => ?_)
              clear hK K
              refine norm_ (a' := ?_) ?_ ?_
              rotate_left
              · show Act.put _ (some 24) _ = _
                simp only [Act.put, List.setIfInBounds_toArray, List.set_cons_zero, List.set_cons_succ, i64_w, i32_w]
                rfl
              exact norm_ (by simp only [putAll, Act.put, List.setIfInBounds_toArray, List.set_cons_zero, List.set_cons_succ]) (hCont (v181) _ ⟨(by (with_reducible repeat (first | apply Kd.R_alloc | apply Kd.R_drewN | apply Kd.R_drew)); exact HO182.out), (by repeat (first | (with_reducible first | exact HB.out | apply below_alloc | apply pw_below_drewN | apply below_drew1) | exact HB.out))⟩)
        rintro v181 w20 ⟨h0_, h1_⟩
        have n0_ : Aside0 (Kd.R (Kd.int .u8) 5 w20 w.heap.size (fun _ => True) v181 y180) := ⟨h0_⟩
        have n1_ : Aside0 (Below w.heap.size w w20) := ⟨h1_⟩
        clear HB
        clear h0_ h1_
        have HO182 := n0_
        have HB := n1_
        clear n0_ n1_
        have hHeld := trivial
        refine norm_ (a' := ?_) ?_ ?_
        rotate_left
        · simp only [putAll, Act.put, List.setIfInBounds_toArray, List.set_cons_zero, List.set_cons_succ]
          rfl
        refine pure_ (i := 9) (N := some 31) (v := ?_) (a' := ?_) #[true, true, true, true, true, true, true, true, true, true, false] rfl rfl (any_of HT_.out (by kernel_rfl)) (fun _ _ _ h => h) (Or.inl ⟨by rfl, ?_⟩) ?_ ?_
        rotate_left
        · intro w'
          go_simp
          with_reducible rfl
        rotate_left
        · simp only [Act.put, List.setIfInBounds_toArray, List.set_cons_zero, List.set_cons_succ, i64_w, i32_w]
          rfl
        refine pure_ (i := 10) (N := some 2) (v := ?_) (a' := ?_) #[true, true, true, true, true, true, true, true, true, true, true] rfl rfl (any_of HT_.out (by kernel_rfl)) (fun _ _ _ h => h) (Or.inl ⟨by rfl, ?_⟩) ?_ ?_
        rotate_left
        · intro w'
          go_simp
          with_reducible rfl
        rotate_left
        · simp only [Act.put, List.setIfInBounds_toArray, List.set_cons_zero, List.set_cons_succ, i64_w, i32_w]
          rfl
        refine done_ (done_of HT_.out (by kernel_rfl)) ?_
        try go_wp2
        go_ret
        exact ⟨by first | rfl | (simp [errW_none, errW_some] <;> rfl) | (simp [*, errW_none, errW_some] <;> rfl), by repeat (first | (with_reducible first | exact HB.out | apply below_alloc | apply pw_below_drewN | apply below_drew1) | exact HB.out)⟩
      · rw [if_neg c14] at H
        exact absurd H (by simp)

/-! ### gossamerref8_Show: function 13 -/
def gossamerref8_Show.f (k : Nat) (a0 : Int) : Option (ByteArray) := (gossamerref8_Digits.f k (wrap64 (a0 / 16777216))).bind fun t183 => (if t183.size + 1 ≤ 9223372036854775807 then ((gossamerref8_Digits.f k (wrap64 (Go.bits .and .u32 (a0 / 65536) 255))).bind fun t184 => (if (t183 ++ (⟨#[46]⟩ : ByteArray)).size + t184.size ≤ 9223372036854775807 then (if ((t183 ++ (⟨#[46]⟩ : ByteArray)) ++ t184).size + 1 ≤ 9223372036854775807 then ((gossamerref8_Digits.f k (wrap64 (Go.bits .and .u32 (a0 / 256) 255))).bind fun t185 => (if (((t183 ++ (⟨#[46]⟩ : ByteArray)) ++ t184) ++ (⟨#[46]⟩ : ByteArray)).size + t185.size ≤ 9223372036854775807 then (if ((((t183 ++ (⟨#[46]⟩ : ByteArray)) ++ t184) ++ (⟨#[46]⟩ : ByteArray)) ++ t185).size + 1 ≤ 9223372036854775807 then ((gossamerref8_Digits.f k (wrap64 (Go.bits .and .u32 a0 255))).bind fun t186 => (if (((((t183 ++ (⟨#[46]⟩ : ByteArray)) ++ t184) ++ (⟨#[46]⟩ : ByteArray)) ++ t185) ++ (⟨#[46]⟩ : ByteArray)).size + t186.size ≤ 9223372036854775807 then (some ((((((t183 ++ (⟨#[46]⟩ : ByteArray)) ++ t184) ++ (⟨#[46]⟩ : ByteArray)) ++ t185) ++ (⟨#[46]⟩ : ByteArray)) ++ t186)) else (none))) else (none)) else (none))) else (none)) else (none))) else (none))
theorem gossamerref8_Show.mono : ∀ a0 k, LeO (gossamerref8_Show.f k a0) (gossamerref8_Show.f (k + 1) a0) := by
  intro a0 k
  unfold gossamerref8_Show.f
  repeat' first
      | (with_reducible exact gossamerref8_Digits.mono _ _)
      | (with_reducible exact LeO.refl _)
      | (with_reducible exact LeO.none _)
      | (with_reducible refine LeO.ite ?_ ?_)
      | (with_reducible refine LeO.bind ?_ (fun _ => ?_))
      | exact gossamerref8_Digits.mono _ _
      | exact LeO.none _
      | refine LeO.ite ?_ ?_
      | refine LeO.bind ?_ (fun _ => ?_)
set_option maxHeartbeats 8000000 in
set_option maxRecDepth 100000 in
theorem gossamerref8_Show.calls (k : Nat) (a0 : Int) (r : ByteArray) (w : World) (h : gossamerref8_Show.f k a0 = some r) :
    Calls Tryd.prog 13 #[.int .u32 a0] w fun e w' => e = .returned (.string r) ∧ Below w.heap.size w w' := by
  have HB := Aside0.mk (Below.refl w.heap.size w)
  have H : ((gossamerref8_Digits.f k (wrap64 (a0 / 16777216))).bind fun t183 => (if t183.size + 1 ≤ 9223372036854775807 then ((gossamerref8_Digits.f k (wrap64 (Go.bits .and .u32 (a0 / 65536) 255))).bind fun t184 => (if (t183 ++ (⟨#[46]⟩ : ByteArray)).size + t184.size ≤ 9223372036854775807 then (if ((t183 ++ (⟨#[46]⟩ : ByteArray)) ++ t184).size + 1 ≤ 9223372036854775807 then ((gossamerref8_Digits.f k (wrap64 (Go.bits .and .u32 (a0 / 256) 255))).bind fun t185 => (if (((t183 ++ (⟨#[46]⟩ : ByteArray)) ++ t184) ++ (⟨#[46]⟩ : ByteArray)).size + t185.size ≤ 9223372036854775807 then (if ((((t183 ++ (⟨#[46]⟩ : ByteArray)) ++ t184) ++ (⟨#[46]⟩ : ByteArray)) ++ t185).size + 1 ≤ 9223372036854775807 then ((gossamerref8_Digits.f k (wrap64 (Go.bits .and .u32 a0 255))).bind fun t186 => (if (((((t183 ++ (⟨#[46]⟩ : ByteArray)) ++ t184) ++ (⟨#[46]⟩ : ByteArray)) ++ t185) ++ (⟨#[46]⟩ : ByteArray)).size + t186.size ≤ 9223372036854775807 then (some ((((((t183 ++ (⟨#[46]⟩ : ByteArray)) ++ t184) ++ (⟨#[46]⟩ : ByteArray)) ++ t185) ++ (⟨#[46]⟩ : ByteArray)) ++ t186)) else (none))) else (none)) else (none))) else (none)) else (none))) else (none))) = some r := h
  clear h
  replace H := Option.bind_eq_some_iff.mp H
  obtain ⟨t183, A20, H⟩ := H
  replace H : (if t183.size + 1 ≤ 9223372036854775807 then ((gossamerref8_Digits.f k (wrap64 (Go.bits .and .u32 (a0 / 65536) 255))).bind fun t184 => (if (t183 ++ (⟨#[46]⟩ : ByteArray)).size + t184.size ≤ 9223372036854775807 then (if ((t183 ++ (⟨#[46]⟩ : ByteArray)) ++ t184).size + 1 ≤ 9223372036854775807 then ((gossamerref8_Digits.f k (wrap64 (Go.bits .and .u32 (a0 / 256) 255))).bind fun t185 => (if (((t183 ++ (⟨#[46]⟩ : ByteArray)) ++ t184) ++ (⟨#[46]⟩ : ByteArray)).size + t185.size ≤ 9223372036854775807 then (if ((((t183 ++ (⟨#[46]⟩ : ByteArray)) ++ t184) ++ (⟨#[46]⟩ : ByteArray)) ++ t185).size + 1 ≤ 9223372036854775807 then ((gossamerref8_Digits.f k (wrap64 (Go.bits .and .u32 a0 255))).bind fun t186 => (if (((((t183 ++ (⟨#[46]⟩ : ByteArray)) ++ t184) ++ (⟨#[46]⟩ : ByteArray)) ++ t185) ++ (⟨#[46]⟩ : ByteArray)).size + t186.size ≤ 9223372036854775807 then (some ((((((t183 ++ (⟨#[46]⟩ : ByteArray)) ++ t184) ++ (⟨#[46]⟩ : ByteArray)) ++ t185) ++ (⟨#[46]⟩ : ByteArray)) ++ t186)) else (none))) else (none)) else (none))) else (none)) else (none))) else (none)) = some r := H
  have A2 := Aside0.mk A20
  clear A20
  by_cases c3 : t183.size + 1 ≤ 9223372036854775807
  · rw [if_pos c3] at H
    have c3b0 := eq_true c3
    have c3b1 : decide (t183.size + 1 ≤ 9223372036854775807) = true := decide_eq_true c3
    try have c3b2 : (9223372036854775807 < t183.size + 1) = False := eq_false (Nat.not_lt.2 c3)
    replace H := Option.bind_eq_some_iff.mp H
    obtain ⟨t184, A40, H⟩ := H
    replace H : (if (t183 ++ (⟨#[46]⟩ : ByteArray)).size + t184.size ≤ 9223372036854775807 then (if ((t183 ++ (⟨#[46]⟩ : ByteArray)) ++ t184).size + 1 ≤ 9223372036854775807 then ((gossamerref8_Digits.f k (wrap64 (Go.bits .and .u32 (a0 / 256) 255))).bind fun t185 => (if (((t183 ++ (⟨#[46]⟩ : ByteArray)) ++ t184) ++ (⟨#[46]⟩ : ByteArray)).size + t185.size ≤ 9223372036854775807 then (if ((((t183 ++ (⟨#[46]⟩ : ByteArray)) ++ t184) ++ (⟨#[46]⟩ : ByteArray)) ++ t185).size + 1 ≤ 9223372036854775807 then ((gossamerref8_Digits.f k (wrap64 (Go.bits .and .u32 a0 255))).bind fun t186 => (if (((((t183 ++ (⟨#[46]⟩ : ByteArray)) ++ t184) ++ (⟨#[46]⟩ : ByteArray)) ++ t185) ++ (⟨#[46]⟩ : ByteArray)).size + t186.size ≤ 9223372036854775807 then (some ((((((t183 ++ (⟨#[46]⟩ : ByteArray)) ++ t184) ++ (⟨#[46]⟩ : ByteArray)) ++ t185) ++ (⟨#[46]⟩ : ByteArray)) ++ t186)) else (none))) else (none)) else (none))) else (none)) else (none)) = some r := H
    have A4 := Aside0.mk A40
    clear A40
    by_cases c5 : (t183 ++ (⟨#[46]⟩ : ByteArray)).size + t184.size ≤ 9223372036854775807
    · rw [if_pos c5] at H
      have c5b0 := eq_true c5
      have c5b0v := c5b0
      (try simp only [ByteArray.size_append, Int.natCast_add, show ByteArray.size ⟨#[46]⟩ = 1 from rfl, Int.cast_ofNat_Int] at c5b0v)
      have c5b1 : decide ((t183 ++ (⟨#[46]⟩ : ByteArray)).size + t184.size ≤ 9223372036854775807) = true := decide_eq_true c5
      (try have c5b1v := c5b1)
      (try simp only [ByteArray.size_append, Int.natCast_add, show ByteArray.size ⟨#[46]⟩ = 1 from rfl, Int.cast_ofNat_Int] at c5b1v)
      try have c5b2 : (9223372036854775807 < (t183 ++ (⟨#[46]⟩ : ByteArray)).size + t184.size) = False := eq_false (Nat.not_lt.2 c5)
      (try have c5b2v := c5b2)
      (try simp only [ByteArray.size_append, Int.natCast_add, show ByteArray.size ⟨#[46]⟩ = 1 from rfl, Int.cast_ofNat_Int] at c5b2v)
      by_cases c6 : ((t183 ++ (⟨#[46]⟩ : ByteArray)) ++ t184).size + 1 ≤ 9223372036854775807
      · rw [if_pos c6] at H
        have c6b0 := eq_true c6
        have c6b0v := c6b0
        (try simp only [ByteArray.size_append, Int.natCast_add, show ByteArray.size ⟨#[46]⟩ = 1 from rfl, Int.cast_ofNat_Int] at c6b0v)
        have c6b1 : decide (((t183 ++ (⟨#[46]⟩ : ByteArray)) ++ t184).size + 1 ≤ 9223372036854775807) = true := decide_eq_true c6
        (try have c6b1v := c6b1)
        (try simp only [ByteArray.size_append, Int.natCast_add, show ByteArray.size ⟨#[46]⟩ = 1 from rfl, Int.cast_ofNat_Int] at c6b1v)
        try have c6b2 : (9223372036854775807 < ((t183 ++ (⟨#[46]⟩ : ByteArray)) ++ t184).size + 1) = False := eq_false (Nat.not_lt.2 c6)
        (try have c6b2v := c6b2)
        (try simp only [ByteArray.size_append, Int.natCast_add, show ByteArray.size ⟨#[46]⟩ = 1 from rfl, Int.cast_ofNat_Int] at c6b2v)
        replace H := Option.bind_eq_some_iff.mp H
        obtain ⟨t185, A70, H⟩ := H
        replace H : (if (((t183 ++ (⟨#[46]⟩ : ByteArray)) ++ t184) ++ (⟨#[46]⟩ : ByteArray)).size + t185.size ≤ 9223372036854775807 then (if ((((t183 ++ (⟨#[46]⟩ : ByteArray)) ++ t184) ++ (⟨#[46]⟩ : ByteArray)) ++ t185).size + 1 ≤ 9223372036854775807 then ((gossamerref8_Digits.f k (wrap64 (Go.bits .and .u32 a0 255))).bind fun t186 => (if (((((t183 ++ (⟨#[46]⟩ : ByteArray)) ++ t184) ++ (⟨#[46]⟩ : ByteArray)) ++ t185) ++ (⟨#[46]⟩ : ByteArray)).size + t186.size ≤ 9223372036854775807 then (some ((((((t183 ++ (⟨#[46]⟩ : ByteArray)) ++ t184) ++ (⟨#[46]⟩ : ByteArray)) ++ t185) ++ (⟨#[46]⟩ : ByteArray)) ++ t186)) else (none))) else (none)) else (none)) = some r := H
        have A7 := Aside0.mk A70
        clear A70
        by_cases c8 : (((t183 ++ (⟨#[46]⟩ : ByteArray)) ++ t184) ++ (⟨#[46]⟩ : ByteArray)).size + t185.size ≤ 9223372036854775807
        · rw [if_pos c8] at H
          have c8b0 := eq_true c8
          have c8b0v := c8b0
          (try simp only [ByteArray.size_append, Int.natCast_add, show ByteArray.size ⟨#[46]⟩ = 1 from rfl, Int.cast_ofNat_Int] at c8b0v)
          have c8b1 : decide ((((t183 ++ (⟨#[46]⟩ : ByteArray)) ++ t184) ++ (⟨#[46]⟩ : ByteArray)).size + t185.size ≤ 9223372036854775807) = true := decide_eq_true c8
          (try have c8b1v := c8b1)
          (try simp only [ByteArray.size_append, Int.natCast_add, show ByteArray.size ⟨#[46]⟩ = 1 from rfl, Int.cast_ofNat_Int] at c8b1v)
          try have c8b2 : (9223372036854775807 < (((t183 ++ (⟨#[46]⟩ : ByteArray)) ++ t184) ++ (⟨#[46]⟩ : ByteArray)).size + t185.size) = False := eq_false (Nat.not_lt.2 c8)
          (try have c8b2v := c8b2)
          (try simp only [ByteArray.size_append, Int.natCast_add, show ByteArray.size ⟨#[46]⟩ = 1 from rfl, Int.cast_ofNat_Int] at c8b2v)
          by_cases c9 : ((((t183 ++ (⟨#[46]⟩ : ByteArray)) ++ t184) ++ (⟨#[46]⟩ : ByteArray)) ++ t185).size + 1 ≤ 9223372036854775807
          · rw [if_pos c9] at H
            have c9b0 := eq_true c9
            have c9b0v := c9b0
            (try simp only [ByteArray.size_append, Int.natCast_add, show ByteArray.size ⟨#[46]⟩ = 1 from rfl, Int.cast_ofNat_Int] at c9b0v)
            have c9b1 : decide (((((t183 ++ (⟨#[46]⟩ : ByteArray)) ++ t184) ++ (⟨#[46]⟩ : ByteArray)) ++ t185).size + 1 ≤ 9223372036854775807) = true := decide_eq_true c9
            (try have c9b1v := c9b1)
            (try simp only [ByteArray.size_append, Int.natCast_add, show ByteArray.size ⟨#[46]⟩ = 1 from rfl, Int.cast_ofNat_Int] at c9b1v)
            try have c9b2 : (9223372036854775807 < ((((t183 ++ (⟨#[46]⟩ : ByteArray)) ++ t184) ++ (⟨#[46]⟩ : ByteArray)) ++ t185).size + 1) = False := eq_false (Nat.not_lt.2 c9)
            (try have c9b2v := c9b2)
            (try simp only [ByteArray.size_append, Int.natCast_add, show ByteArray.size ⟨#[46]⟩ = 1 from rfl, Int.cast_ofNat_Int] at c9b2v)
            replace H := Option.bind_eq_some_iff.mp H
            obtain ⟨t186, A100, H⟩ := H
            replace H : (if (((((t183 ++ (⟨#[46]⟩ : ByteArray)) ++ t184) ++ (⟨#[46]⟩ : ByteArray)) ++ t185) ++ (⟨#[46]⟩ : ByteArray)).size + t186.size ≤ 9223372036854775807 then (some ((((((t183 ++ (⟨#[46]⟩ : ByteArray)) ++ t184) ++ (⟨#[46]⟩ : ByteArray)) ++ t185) ++ (⟨#[46]⟩ : ByteArray)) ++ t186)) else (none)) = some r := H
            have A10 := Aside0.mk A100
            clear A100
            by_cases c11 : (((((t183 ++ (⟨#[46]⟩ : ByteArray)) ++ t184) ++ (⟨#[46]⟩ : ByteArray)) ++ t185) ++ (⟨#[46]⟩ : ByteArray)).size + t186.size ≤ 9223372036854775807
            · rw [if_pos c11] at H
              have c11b0 := eq_true c11
              have c11b0v := c11b0
              (try simp only [ByteArray.size_append, Int.natCast_add, show ByteArray.size ⟨#[46]⟩ = 1 from rfl, Int.cast_ofNat_Int] at c11b0v)
              have c11b1 : decide ((((((t183 ++ (⟨#[46]⟩ : ByteArray)) ++ t184) ++ (⟨#[46]⟩ : ByteArray)) ++ t185) ++ (⟨#[46]⟩ : ByteArray)).size + t186.size ≤ 9223372036854775807) = true := decide_eq_true c11
              (try have c11b1v := c11b1)
              (try simp only [ByteArray.size_append, Int.natCast_add, show ByteArray.size ⟨#[46]⟩ = 1 from rfl, Int.cast_ofNat_Int] at c11b1v)
              try have c11b2 : (9223372036854775807 < (((((t183 ++ (⟨#[46]⟩ : ByteArray)) ++ t184) ++ (⟨#[46]⟩ : ByteArray)) ++ t185) ++ (⟨#[46]⟩ : ByteArray)).size + t186.size) = False := eq_false (Nat.not_lt.2 c11)
              (try have c11b2v := c11b2)
              (try simp only [ByteArray.size_append, Int.natCast_add, show ByteArray.size ⟨#[46]⟩ = 1 from rfl, Int.cast_ofNat_Int] at c11b2v)
              obtain rfl := Option.some.inj H
              go_enter Tryd.func13, Tryd.ntmps13
              go_wp2_with (first | ((with_reducible refine gate_callee (f := 25) rfl ?_); refine goesL_ (some 6) rfl rfl Tryd.func25 (by kernel_rfl) rfl #[.int .i64 (wrap64 (a0 / 16777216))] rfl (by (try simp only [List.map_toArray, List.map_cons, List.map_nil]); first | done | rfl | (simp only [List.length_drop, List.length_take]; rfl)) ?_; (with_reducible refine (gossamerref8_Digits.calls k (wrap64 (a0 / 16777216)) t183 _ A2.out).mono ?_); rintro e w12 ⟨rfl, hb⟩; refine ⟨_, rfl, ?_⟩; have n0_ := Aside0.mk (below_step (by repeat (first | (with_reducible first | exact HB.out | apply below_alloc | apply pw_below_drewN | apply below_drew1) | exact HB.out)) hb); clear HB; have HB := n0_; clear n0_; (try clear hb); (try clear hb2); (try clear hk); (try clear hi)) | ((with_reducible refine gate_callee (f := 25) rfl ?_); refine goesL_ (some 12) rfl rfl Tryd.func25 (by kernel_rfl) rfl #[.int .i64 (wrap64 (Go.bits .and .u32 (a0 / 65536) 255))] rfl (by (try simp only [List.map_toArray, List.map_cons, List.map_nil]); first | done | rfl | (simp only [List.length_drop, List.length_take]; rfl)) ?_; (with_reducible refine (gossamerref8_Digits.calls k (wrap64 (Go.bits .and .u32 (a0 / 65536) 255)) t184 _ A4.out).mono ?_); rintro e w13 ⟨rfl, hb⟩; refine ⟨_, rfl, ?_⟩; have n0_ := Aside0.mk (below_step (by repeat (first | (with_reducible first | exact HB.out | apply below_alloc | apply pw_below_drewN | apply below_drew1) | exact HB.out)) hb); clear HB; have HB := n0_; clear n0_; (try clear hb); (try clear hb2); (try clear hk); (try clear hi)) | ((with_reducible refine gate_callee (f := 25) rfl ?_); refine goesL_ (some 19) rfl rfl Tryd.func25 (by kernel_rfl) rfl #[.int .i64 (wrap64 (Go.bits .and .u32 (a0 / 256) 255))] rfl (by (try simp only [List.map_toArray, List.map_cons, List.map_nil]); first | done | rfl | (simp only [List.length_drop, List.length_take]; rfl)) ?_; (with_reducible refine (gossamerref8_Digits.calls k (wrap64 (Go.bits .and .u32 (a0 / 256) 255)) t185 _ A7.out).mono ?_); rintro e w14 ⟨rfl, hb⟩; refine ⟨_, rfl, ?_⟩; have n0_ := Aside0.mk (below_step (by repeat (first | (with_reducible first | exact HB.out | apply below_alloc | apply pw_below_drewN | apply below_drew1) | exact HB.out)) hb); clear HB; have HB := n0_; clear n0_; (try clear hb); (try clear hb2); (try clear hk); (try clear hi)) | ((with_reducible refine gate_callee (f := 25) rfl ?_); refine goesL_ (some 25) rfl rfl Tryd.func25 (by kernel_rfl) rfl #[.int .i64 (wrap64 (Go.bits .and .u32 a0 255))] rfl (by (try simp only [List.map_toArray, List.map_cons, List.map_nil]); first | done | rfl | (simp only [List.length_drop, List.length_take]; rfl)) ?_; (with_reducible refine (gossamerref8_Digits.calls k (wrap64 (Go.bits .and .u32 a0 255)) t186 _ A10.out).mono ?_); rintro e w15 ⟨rfl, hb⟩; refine ⟨_, rfl, ?_⟩; have n0_ := Aside0.mk (below_step (by repeat (first | (with_reducible first | exact HB.out | apply below_alloc | apply pw_below_drewN | apply below_drew1) | exact HB.out)) hb); clear HB; have HB := n0_; clear n0_; (try clear hb); (try clear hb2); (try clear hk); (try clear hi)))
              go_ret
              exact ⟨by first | rfl | (simp [errW_none, errW_some] <;> rfl) | (simp [*, errW_none, errW_some] <;> rfl), by repeat (first | (with_reducible first | exact HB.out | apply below_alloc | apply pw_below_drewN | apply below_drew1) | exact HB.out)⟩
            · rw [if_neg c11] at H
              exact absurd H (by simp)
          · rw [if_neg c9] at H
            exact absurd H (by simp)
        · rw [if_neg c8] at H
          exact absurd H (by simp)
      · rw [if_neg c6] at H
        exact absurd H (by simp)
    · rw [if_neg c5] at H
      exact absurd H (by simp)
  · rw [if_neg c3] at H
    exact absurd H (by simp)

/-! ### gossamerlaw8_FourBack: function 4 -/
def gossamerlaw8_FourBack.f (k : Nat) (a0 : Int) : Option (Bool) := (ip4_Show.f k a0).bind fun t187 => ((ip4_Parse.f k t187).bind fun bt188 => ((gossamerref8_Show.f k a0).bind fun t190 => (if t187.toList = t190.toList then (if bt188.2 = true then (if bt188.1 = a0 then ((ip4_Ends.f k t187).bind fun t191 => (if t191 = true then ((gossamerlaw8_awake.f k).bind fun t192 => (some t192)) else (some false))) else (some false)) else (some false)) else (some false))))
theorem gossamerlaw8_FourBack.mono : ∀ a0 k, LeO (gossamerlaw8_FourBack.f k a0) (gossamerlaw8_FourBack.f (k + 1) a0) := by
  intro a0 k
  unfold gossamerlaw8_FourBack.f
  repeat' first
      | (with_reducible exact gossamerlaw8_awake.mono _)
      | (with_reducible exact gossamerref8_Show.mono _ _)
      | (with_reducible exact ip4_Ends.mono _ _)
      | (with_reducible exact ip4_Parse.mono _ _)
      | (with_reducible exact ip4_Show.mono _ _)
      | (with_reducible exact LeO.refl _)
      | (with_reducible exact LeO.none _)
      | (with_reducible refine LeO.ite ?_ ?_)
      | (with_reducible refine LeO.bind ?_ (fun _ => ?_))
      | exact gossamerlaw8_awake.mono _
      | exact gossamerref8_Show.mono _ _
      | exact ip4_Ends.mono _ _
      | exact ip4_Parse.mono _ _
      | exact ip4_Show.mono _ _
      | exact LeO.none _
      | refine LeO.ite ?_ ?_
      | refine LeO.bind ?_ (fun _ => ?_)
set_option maxHeartbeats 8000000 in
set_option maxRecDepth 100000 in
theorem gossamerlaw8_FourBack.calls (k : Nat) (a0 : Int) (r : Bool) (w : World) (hE : EnvOK w) (h : gossamerlaw8_FourBack.f k a0 = some r) :
    Calls Tryd.prog 4 #[.int .u32 a0] w fun e w' => e = .returned (.bool r) ∧ Below w.heap.size w w' := by
  have HE := Aside0.mk hE
  clear hE
  have HB := Aside0.mk (Below.refl w.heap.size w)
  have H : ((ip4_Show.f k a0).bind fun t187 => ((ip4_Parse.f k t187).bind fun bt188 => ((gossamerref8_Show.f k a0).bind fun t190 => (if t187.toList = t190.toList then (if bt188.2 = true then (if bt188.1 = a0 then ((ip4_Ends.f k t187).bind fun t191 => (if t191 = true then ((gossamerlaw8_awake.f k).bind fun t192 => (some t192)) else (some false))) else (some false)) else (some false)) else (some false))))) = some r := h
  clear h
  replace H := Option.bind_eq_some_iff.mp H
  obtain ⟨t187, A20, H⟩ := H
  replace H : ((ip4_Parse.f k t187).bind fun bt188 => ((gossamerref8_Show.f k a0).bind fun t190 => (if t187.toList = t190.toList then (if bt188.2 = true then (if bt188.1 = a0 then ((ip4_Ends.f k t187).bind fun t191 => (if t191 = true then ((gossamerlaw8_awake.f k).bind fun t192 => (some t192)) else (some false))) else (some false)) else (some false)) else (some false)))) = some r := H
  have A2 := Aside0.mk A20
  clear A20
  replace H := Option.bind_eq_some_iff.mp H
  obtain ⟨⟨t188, t189⟩, A30, H⟩ := H
  replace H : ((gossamerref8_Show.f k a0).bind fun t190 => (if t187.toList = t190.toList then (if t189 = true then (if t188 = a0 then ((ip4_Ends.f k t187).bind fun t191 => (if t191 = true then ((gossamerlaw8_awake.f k).bind fun t192 => (some t192)) else (some false))) else (some false)) else (some false)) else (some false))) = some r := H
  have A3 := Aside0.mk A30
  clear A30
  replace H := Option.bind_eq_some_iff.mp H
  obtain ⟨t190, A40, H⟩ := H
  replace H : (if t187.toList = t190.toList then (if t189 = true then (if t188 = a0 then ((ip4_Ends.f k t187).bind fun t191 => (if t191 = true then ((gossamerlaw8_awake.f k).bind fun t192 => (some t192)) else (some false))) else (some false)) else (some false)) else (some false)) = some r := H
  have A4 := Aside0.mk A40
  clear A40
  by_cases c5 : t187.toList = t190.toList
  · rw [if_pos c5] at H
    have c5b0 : (t187.toList == t190.toList) = true := beq_iff_eq.mpr c5
    have c5b1 : (t187.toList != t190.toList) = false := bne_eq_false_iff_eq.mpr c5
    clear c5
    by_cases c6 : t189 = true
    · subst c6
      have H1 : (if t188 = a0 then ((ip4_Ends.f k t187).bind fun t191 => (if t191 = true then ((gossamerlaw8_awake.f k).bind fun t192 => (some t192)) else (some false))) else (some false)) = some r := by rw [if_pos rfl] at H; exact H
      clear H
      have H := H1
      clear H1
      by_cases c7 : t188 = a0
      · rw [if_pos c7] at H
        have c7b0 : (t188 == a0) = true := beq_iff_eq.mpr c7
        have c7b1 : (t188 != a0) = false := bne_eq_false_iff_eq.mpr c7
        clear c7
        replace H := Option.bind_eq_some_iff.mp H
        obtain ⟨t191, A80, H⟩ := H
        replace H : (if t191 = true then ((gossamerlaw8_awake.f k).bind fun t192 => (some t192)) else (some false)) = some r := H
        have A8 := Aside0.mk A80
        clear A80
        by_cases c9 : t191 = true
        · subst c9
          have H1 : ((gossamerlaw8_awake.f k).bind fun t192 => (some t192)) = some r := by rw [if_pos rfl] at H; exact H
          clear H
          have H := H1
          clear H1
          replace H := Option.bind_eq_some_iff.mp H
          obtain ⟨t192, A100, H⟩ := H
          replace H : (some t192) = some r := H
          have A10 := Aside0.mk A100
          clear A100
          obtain rfl := Option.some.inj H
          go_enter Tryd.func4, Tryd.ntmps4
          go_wp2_with (first | ((with_reducible refine gate_callee (f := 12) rfl ?_); refine goesL_ (some 7) rfl rfl Tryd.func12 (by kernel_rfl) rfl #[.int .u32 a0] rfl (by (try simp only [List.map_toArray, List.map_cons, List.map_nil]); first | done | rfl | (simp only [List.length_drop, List.length_take]; rfl)) ?_; (with_reducible refine (ip4_Show.calls k a0 t187 _ ?side1 A2.out).mono ?_); (case side1 => exact EnvOK.step HE.out (by repeat (first | (with_reducible first | exact HB.out | apply below_alloc | apply pw_below_drewN | apply below_drew1) | exact HB.out))); rintro e w11 ⟨rfl, hb⟩; refine ⟨_, rfl, ?_⟩; have n0_ := Aside0.mk (below_step (by repeat (first | (with_reducible first | exact HB.out | apply below_alloc | apply pw_below_drewN | apply below_drew1) | exact HB.out)) hb); clear HB; have HB := n0_; clear n0_; (try clear hb); (try clear hb2); (try clear hk); (try clear hi)) | ((with_reducible refine gate_callee (f := 8) rfl ?_); refine goesL_ (some 10) rfl rfl Tryd.func8 (by kernel_rfl) rfl #[.string t187] rfl (by (try simp only [List.map_toArray, List.map_cons, List.map_nil]); first | done | rfl | (simp only [List.length_drop, List.length_take]; rfl)) ?_; (with_reducible refine (ip4_Parse.calls k t187 t188 true _ ?side1 A3.out).mono ?_); (case side1 => exact EnvOK.step HE.out (by repeat (first | (with_reducible first | exact HB.out | apply below_alloc | apply pw_below_drewN | apply below_drew1) | exact HB.out))); rintro e w12 ⟨rfl, hb⟩; refine ⟨_, rfl, ?_⟩; have n0_ := Aside0.mk (below_step (by repeat (first | (with_reducible first | exact HB.out | apply below_alloc | apply pw_below_drewN | apply below_drew1) | exact HB.out)) hb); clear HB; have HB := n0_; clear n0_; (try clear hb); (try clear hb2); (try clear hk); (try clear hi)) | ((with_reducible refine gate_callee (f := 13) rfl ?_); refine goesL_ (some 15) rfl rfl Tryd.func13 (by kernel_rfl) rfl #[.int .u32 a0] rfl (by (try simp only [List.map_toArray, List.map_cons, List.map_nil]); first | done | rfl | (simp only [List.length_drop, List.length_take]; rfl)) ?_; (with_reducible refine (gossamerref8_Show.calls k a0 t190 _ A4.out).mono ?_); rintro e w13 ⟨rfl, hb⟩; refine ⟨_, rfl, ?_⟩; have n0_ := Aside0.mk (below_step (by repeat (first | (with_reducible first | exact HB.out | apply below_alloc | apply pw_below_drewN | apply below_drew1) | exact HB.out)) hb); clear HB; have HB := n0_; clear n0_; (try clear hb); (try clear hb2); (try clear hk); (try clear hi)) | (go_at_call 10; (with_reducible refine (ip4_Ends.calls k t187 true _ ?side1 A8.out).mono ?_); (case side1 => exact EnvOK.step HE.out (by repeat (first | (with_reducible first | exact HB.out | apply below_alloc | apply pw_below_drewN | apply below_drew1) | exact HB.out))); rintro e w14 ⟨rfl, hb⟩; have n0_ := Aside0.mk (below_step (by repeat (first | (with_reducible first | exact HB.out | apply below_alloc | apply pw_below_drewN | apply below_drew1) | exact HB.out)) hb); clear HB; have HB := n0_; clear n0_; (try clear hb); (try clear hb2); (try clear hk); (try clear hi)) | (go_at_call 7; (with_reducible refine (gossamerlaw8_awake.calls k  t192 _ ?side1 A10.out).mono ?_); (case side1 => exact EnvOK.step HE.out (by repeat (first | (with_reducible first | exact HB.out | apply below_alloc | apply pw_below_drewN | apply below_drew1) | exact HB.out))); rintro e w15 ⟨rfl, hb⟩; have n0_ := Aside0.mk (below_step (by repeat (first | (with_reducible first | exact HB.out | apply below_alloc | apply pw_below_drewN | apply below_drew1) | exact HB.out)) hb); clear HB; have HB := n0_; clear n0_; (try clear hb); (try clear hb2); (try clear hk); (try clear hi)))
          go_ret
          exact ⟨by first | rfl | (simp [errW_none, errW_some] <;> rfl) | (simp [*, errW_none, errW_some] <;> rfl), by repeat (first | (with_reducible first | exact HB.out | apply below_alloc | apply pw_below_drewN | apply below_drew1) | exact HB.out)⟩
        · replace c9 := Bool.eq_false_iff.mpr c9
          subst c9
          have H1 : (some false) = some r := by rw [if_neg (show ¬ (false = true) by decide)] at H; exact H
          clear H
          have H := H1
          clear H1
          obtain rfl := Option.some.inj H
          go_enter Tryd.func4, Tryd.ntmps4
          go_wp2_with (first | ((with_reducible refine gate_callee (f := 12) rfl ?_); refine goesL_ (some 7) rfl rfl Tryd.func12 (by kernel_rfl) rfl #[.int .u32 a0] rfl (by (try simp only [List.map_toArray, List.map_cons, List.map_nil]); first | done | rfl | (simp only [List.length_drop, List.length_take]; rfl)) ?_; (with_reducible refine (ip4_Show.calls k a0 t187 _ ?side1 A2.out).mono ?_); (case side1 => exact EnvOK.step HE.out (by repeat (first | (with_reducible first | exact HB.out | apply below_alloc | apply pw_below_drewN | apply below_drew1) | exact HB.out))); rintro e w16 ⟨rfl, hb⟩; refine ⟨_, rfl, ?_⟩; have n0_ := Aside0.mk (below_step (by repeat (first | (with_reducible first | exact HB.out | apply below_alloc | apply pw_below_drewN | apply below_drew1) | exact HB.out)) hb); clear HB; have HB := n0_; clear n0_; (try clear hb); (try clear hb2); (try clear hk); (try clear hi)) | ((with_reducible refine gate_callee (f := 8) rfl ?_); refine goesL_ (some 10) rfl rfl Tryd.func8 (by kernel_rfl) rfl #[.string t187] rfl (by (try simp only [List.map_toArray, List.map_cons, List.map_nil]); first | done | rfl | (simp only [List.length_drop, List.length_take]; rfl)) ?_; (with_reducible refine (ip4_Parse.calls k t187 t188 true _ ?side1 A3.out).mono ?_); (case side1 => exact EnvOK.step HE.out (by repeat (first | (with_reducible first | exact HB.out | apply below_alloc | apply pw_below_drewN | apply below_drew1) | exact HB.out))); rintro e w17 ⟨rfl, hb⟩; refine ⟨_, rfl, ?_⟩; have n0_ := Aside0.mk (below_step (by repeat (first | (with_reducible first | exact HB.out | apply below_alloc | apply pw_below_drewN | apply below_drew1) | exact HB.out)) hb); clear HB; have HB := n0_; clear n0_; (try clear hb); (try clear hb2); (try clear hk); (try clear hi)) | ((with_reducible refine gate_callee (f := 13) rfl ?_); refine goesL_ (some 15) rfl rfl Tryd.func13 (by kernel_rfl) rfl #[.int .u32 a0] rfl (by (try simp only [List.map_toArray, List.map_cons, List.map_nil]); first | done | rfl | (simp only [List.length_drop, List.length_take]; rfl)) ?_; (with_reducible refine (gossamerref8_Show.calls k a0 t190 _ A4.out).mono ?_); rintro e w18 ⟨rfl, hb⟩; refine ⟨_, rfl, ?_⟩; have n0_ := Aside0.mk (below_step (by repeat (first | (with_reducible first | exact HB.out | apply below_alloc | apply pw_below_drewN | apply below_drew1) | exact HB.out)) hb); clear HB; have HB := n0_; clear n0_; (try clear hb); (try clear hb2); (try clear hk); (try clear hi)) | (go_at_call 10; (with_reducible refine (ip4_Ends.calls k t187 false _ ?side1 A8.out).mono ?_); (case side1 => exact EnvOK.step HE.out (by repeat (first | (with_reducible first | exact HB.out | apply below_alloc | apply pw_below_drewN | apply below_drew1) | exact HB.out))); rintro e w19 ⟨rfl, hb⟩; have n0_ := Aside0.mk (below_step (by repeat (first | (with_reducible first | exact HB.out | apply below_alloc | apply pw_below_drewN | apply below_drew1) | exact HB.out)) hb); clear HB; have HB := n0_; clear n0_; (try clear hb); (try clear hb2); (try clear hk); (try clear hi)))
          go_ret
          exact ⟨by first | rfl | (simp [errW_none, errW_some] <;> rfl) | (simp [*, errW_none, errW_some] <;> rfl), by repeat (first | (with_reducible first | exact HB.out | apply below_alloc | apply pw_below_drewN | apply below_drew1) | exact HB.out)⟩
      · rw [if_neg c7] at H
        have c7b0 : (t188 == a0) = false := beq_eq_false_iff_ne.mpr c7
        have c7b1 : (t188 != a0) = true := bne_iff_ne.mpr c7
        obtain rfl := Option.some.inj H
        go_enter Tryd.func4, Tryd.ntmps4
        go_wp2_with (first | ((with_reducible refine gate_callee (f := 12) rfl ?_); refine goesL_ (some 7) rfl rfl Tryd.func12 (by kernel_rfl) rfl #[.int .u32 a0] rfl (by (try simp only [List.map_toArray, List.map_cons, List.map_nil]); first | done | rfl | (simp only [List.length_drop, List.length_take]; rfl)) ?_; (with_reducible refine (ip4_Show.calls k a0 t187 _ ?side1 A2.out).mono ?_); (case side1 => exact EnvOK.step HE.out (by repeat (first | (with_reducible first | exact HB.out | apply below_alloc | apply pw_below_drewN | apply below_drew1) | exact HB.out))); rintro e w20 ⟨rfl, hb⟩; refine ⟨_, rfl, ?_⟩; have n0_ := Aside0.mk (below_step (by repeat (first | (with_reducible first | exact HB.out | apply below_alloc | apply pw_below_drewN | apply below_drew1) | exact HB.out)) hb); clear HB; have HB := n0_; clear n0_; (try clear hb); (try clear hb2); (try clear hk); (try clear hi)) | ((with_reducible refine gate_callee (f := 8) rfl ?_); refine goesL_ (some 10) rfl rfl Tryd.func8 (by kernel_rfl) rfl #[.string t187] rfl (by (try simp only [List.map_toArray, List.map_cons, List.map_nil]); first | done | rfl | (simp only [List.length_drop, List.length_take]; rfl)) ?_; (with_reducible refine (ip4_Parse.calls k t187 t188 true _ ?side1 A3.out).mono ?_); (case side1 => exact EnvOK.step HE.out (by repeat (first | (with_reducible first | exact HB.out | apply below_alloc | apply pw_below_drewN | apply below_drew1) | exact HB.out))); rintro e w21 ⟨rfl, hb⟩; refine ⟨_, rfl, ?_⟩; have n0_ := Aside0.mk (below_step (by repeat (first | (with_reducible first | exact HB.out | apply below_alloc | apply pw_below_drewN | apply below_drew1) | exact HB.out)) hb); clear HB; have HB := n0_; clear n0_; (try clear hb); (try clear hb2); (try clear hk); (try clear hi)) | ((with_reducible refine gate_callee (f := 13) rfl ?_); refine goesL_ (some 15) rfl rfl Tryd.func13 (by kernel_rfl) rfl #[.int .u32 a0] rfl (by (try simp only [List.map_toArray, List.map_cons, List.map_nil]); first | done | rfl | (simp only [List.length_drop, List.length_take]; rfl)) ?_; (with_reducible refine (gossamerref8_Show.calls k a0 t190 _ A4.out).mono ?_); rintro e w22 ⟨rfl, hb⟩; refine ⟨_, rfl, ?_⟩; have n0_ := Aside0.mk (below_step (by repeat (first | (with_reducible first | exact HB.out | apply below_alloc | apply pw_below_drewN | apply below_drew1) | exact HB.out)) hb); clear HB; have HB := n0_; clear n0_; (try clear hb); (try clear hb2); (try clear hk); (try clear hi)))
        go_ret
        exact ⟨by first | rfl | (simp [errW_none, errW_some] <;> rfl) | (simp [*, errW_none, errW_some] <;> rfl), by repeat (first | (with_reducible first | exact HB.out | apply below_alloc | apply pw_below_drewN | apply below_drew1) | exact HB.out)⟩
    · replace c6 := Bool.eq_false_iff.mpr c6
      subst c6
      have H1 : (some false) = some r := by rw [if_neg (show ¬ (false = true) by decide)] at H; exact H
      clear H
      have H := H1
      clear H1
      obtain rfl := Option.some.inj H
      go_enter Tryd.func4, Tryd.ntmps4
      go_wp2_with (first | ((with_reducible refine gate_callee (f := 12) rfl ?_); refine goesL_ (some 7) rfl rfl Tryd.func12 (by kernel_rfl) rfl #[.int .u32 a0] rfl (by (try simp only [List.map_toArray, List.map_cons, List.map_nil]); first | done | rfl | (simp only [List.length_drop, List.length_take]; rfl)) ?_; (with_reducible refine (ip4_Show.calls k a0 t187 _ ?side1 A2.out).mono ?_); (case side1 => exact EnvOK.step HE.out (by repeat (first | (with_reducible first | exact HB.out | apply below_alloc | apply pw_below_drewN | apply below_drew1) | exact HB.out))); rintro e w23 ⟨rfl, hb⟩; refine ⟨_, rfl, ?_⟩; have n0_ := Aside0.mk (below_step (by repeat (first | (with_reducible first | exact HB.out | apply below_alloc | apply pw_below_drewN | apply below_drew1) | exact HB.out)) hb); clear HB; have HB := n0_; clear n0_; (try clear hb); (try clear hb2); (try clear hk); (try clear hi)) | ((with_reducible refine gate_callee (f := 8) rfl ?_); refine goesL_ (some 10) rfl rfl Tryd.func8 (by kernel_rfl) rfl #[.string t187] rfl (by (try simp only [List.map_toArray, List.map_cons, List.map_nil]); first | done | rfl | (simp only [List.length_drop, List.length_take]; rfl)) ?_; (with_reducible refine (ip4_Parse.calls k t187 t188 false _ ?side1 A3.out).mono ?_); (case side1 => exact EnvOK.step HE.out (by repeat (first | (with_reducible first | exact HB.out | apply below_alloc | apply pw_below_drewN | apply below_drew1) | exact HB.out))); rintro e w24 ⟨rfl, hb⟩; refine ⟨_, rfl, ?_⟩; have n0_ := Aside0.mk (below_step (by repeat (first | (with_reducible first | exact HB.out | apply below_alloc | apply pw_below_drewN | apply below_drew1) | exact HB.out)) hb); clear HB; have HB := n0_; clear n0_; (try clear hb); (try clear hb2); (try clear hk); (try clear hi)) | ((with_reducible refine gate_callee (f := 13) rfl ?_); refine goesL_ (some 15) rfl rfl Tryd.func13 (by kernel_rfl) rfl #[.int .u32 a0] rfl (by (try simp only [List.map_toArray, List.map_cons, List.map_nil]); first | done | rfl | (simp only [List.length_drop, List.length_take]; rfl)) ?_; (with_reducible refine (gossamerref8_Show.calls k a0 t190 _ A4.out).mono ?_); rintro e w25 ⟨rfl, hb⟩; refine ⟨_, rfl, ?_⟩; have n0_ := Aside0.mk (below_step (by repeat (first | (with_reducible first | exact HB.out | apply below_alloc | apply pw_below_drewN | apply below_drew1) | exact HB.out)) hb); clear HB; have HB := n0_; clear n0_; (try clear hb); (try clear hb2); (try clear hk); (try clear hi)))
      go_ret
      exact ⟨by first | rfl | (simp [errW_none, errW_some] <;> rfl) | (simp [*, errW_none, errW_some] <;> rfl), by repeat (first | (with_reducible first | exact HB.out | apply below_alloc | apply pw_below_drewN | apply below_drew1) | exact HB.out)⟩
  · rw [if_neg c5] at H
    have c5b0 : (t187.toList == t190.toList) = false := beq_eq_false_iff_ne.mpr c5
    have c5b1 : (t187.toList != t190.toList) = true := bne_iff_ne.mpr c5
    obtain rfl := Option.some.inj H
    go_enter Tryd.func4, Tryd.ntmps4
    go_wp2_with (first | ((with_reducible refine gate_callee (f := 12) rfl ?_); refine goesL_ (some 7) rfl rfl Tryd.func12 (by kernel_rfl) rfl #[.int .u32 a0] rfl (by (try simp only [List.map_toArray, List.map_cons, List.map_nil]); first | done | rfl | (simp only [List.length_drop, List.length_take]; rfl)) ?_; (with_reducible refine (ip4_Show.calls k a0 t187 _ ?side1 A2.out).mono ?_); (case side1 => exact EnvOK.step HE.out (by repeat (first | (with_reducible first | exact HB.out | apply below_alloc | apply pw_below_drewN | apply below_drew1) | exact HB.out))); rintro e w26 ⟨rfl, hb⟩; refine ⟨_, rfl, ?_⟩; have n0_ := Aside0.mk (below_step (by repeat (first | (with_reducible first | exact HB.out | apply below_alloc | apply pw_below_drewN | apply below_drew1) | exact HB.out)) hb); clear HB; have HB := n0_; clear n0_; (try clear hb); (try clear hb2); (try clear hk); (try clear hi)) | ((with_reducible refine gate_callee (f := 8) rfl ?_); refine goesL_ (some 10) rfl rfl Tryd.func8 (by kernel_rfl) rfl #[.string t187] rfl (by (try simp only [List.map_toArray, List.map_cons, List.map_nil]); first | done | rfl | (simp only [List.length_drop, List.length_take]; rfl)) ?_; (with_reducible refine (ip4_Parse.calls k t187 t188 t189 _ ?side1 A3.out).mono ?_); (case side1 => exact EnvOK.step HE.out (by repeat (first | (with_reducible first | exact HB.out | apply below_alloc | apply pw_below_drewN | apply below_drew1) | exact HB.out))); rintro e w27 ⟨rfl, hb⟩; refine ⟨_, rfl, ?_⟩; have n0_ := Aside0.mk (below_step (by repeat (first | (with_reducible first | exact HB.out | apply below_alloc | apply pw_below_drewN | apply below_drew1) | exact HB.out)) hb); clear HB; have HB := n0_; clear n0_; (try clear hb); (try clear hb2); (try clear hk); (try clear hi)) | ((with_reducible refine gate_callee (f := 13) rfl ?_); refine goesL_ (some 15) rfl rfl Tryd.func13 (by kernel_rfl) rfl #[.int .u32 a0] rfl (by (try simp only [List.map_toArray, List.map_cons, List.map_nil]); first | done | rfl | (simp only [List.length_drop, List.length_take]; rfl)) ?_; (with_reducible refine (gossamerref8_Show.calls k a0 t190 _ A4.out).mono ?_); rintro e w28 ⟨rfl, hb⟩; refine ⟨_, rfl, ?_⟩; have n0_ := Aside0.mk (below_step (by repeat (first | (with_reducible first | exact HB.out | apply below_alloc | apply pw_below_drewN | apply below_drew1) | exact HB.out)) hb); clear HB; have HB := n0_; clear n0_; (try clear hb); (try clear hb2); (try clear hk); (try clear hi)))
    go_ret
    exact ⟨by first | rfl | (simp [errW_none, errW_some] <;> rfl) | (simp [*, errW_none, errW_some] <;> rfl), by repeat (first | (with_reducible first | exact HB.out | apply below_alloc | apply pw_below_drewN | apply below_drew1) | exact HB.out)⟩

/-- THE ONE PURE STATEMENT of gossamerlaw8_FourBack: yours. -/
def gossamerlaw8_FourBack.Pure : Prop := ∀ (a0 : Int), (Lit.int .u32 a0).wf = true → ∃ k, gossamerlaw8_FourBack.f k a0 = some true
theorem gossamerlaw8_FourBack.walk (P : gossamerlaw8_FourBack.Pure) (a0 : Int) (w : World) (w0 : (Lit.int .u32 a0).wf = true) (hE : EnvOK w) :
    Calls Tryd.prog 4 #[.int .u32 a0] w fun e w' => e = .returned (.bool true) ∧ Below w.heap.size w w' := by
  obtain ⟨k, h⟩ := P a0 w0
  refine (gossamerlaw8_FourBack.calls k a0 true w hE h).mono ?_
  rintro e w' ⟨rfl, hd⟩
  exact ⟨rfl, hd⟩

/-! ### gossamerlaw0_Low: function 14 -/
def gossamerlaw0_Low.f (a0 : Int) (a1 : Int) : Option (Int) := if (IntKind.u64.wrap (a1)) = 0 then (none) else (some (wrap64 (Int.tmod (IntKind.u64.wrap (a0)) (IntKind.u64.wrap (a1)))))
set_option maxHeartbeats 8000000 in
set_option maxRecDepth 100000 in
theorem gossamerlaw0_Low.calls (a0 : Int) (a1 : Int) (r : Int) (w : World) (h : gossamerlaw0_Low.f a0 a1 = some r) :
    Calls Tryd.prog 14 #[.int .i64 a0, .int .i64 a1] w fun e w' => e = .returned (.int .i64 r) ∧ Drawn0 w w' := by
  have H : (if (IntKind.u64.wrap (a1)) = 0 then (none) else (some (wrap64 (Int.tmod (IntKind.u64.wrap (a0)) (IntKind.u64.wrap (a1)))))) = some r := h
  clear h
  by_cases c3 : (IntKind.u64.wrap (a1)) = 0
  · rw [if_pos c3] at H
    exact absurd H (by simp)
  · rw [if_neg c3] at H
    have c3b0 : ((IntKind.u64.wrap (a1)) == 0) = false := beq_eq_false_iff_ne.mpr c3
    have c3b1 : ((IntKind.u64.wrap (a1)) != 0) = true := bne_iff_ne.mpr c3
    obtain rfl := Option.some.inj H
    go_enter Tryd.func14, Tryd.ntmps14
    go_wp2
    go_ret
    exact ⟨by first | rfl | (simp; done) | (simp [*]; done), by repeat (first | exact Drawn0.refl _ | apply Drawn0.step)⟩

end Go.Proofs.YtamjlbbjemihiaaDoor.PF
