-- WRITTEN BY A PROGRAM OF THIS SESSION (wip/tools/xprint.py, over the kit's print.py).
import Derived.Test.YtngkeifkeffkdaaPGx0
import Derived.Test.YtngkeifkeffkdaaPGx1
namespace Go.Proofs.Ytngkeifkeffkdaa.PG
open Go.RowKit Go.Proofs.YtngkeifkeffkdaaW.PrintWords Go.Proofs.YtngkeifkeffkdaaW.PrintLast Go.Proofs.YtngkeifkeffkdaaW.PrintMore
attribute [local go_sem] max2_int min2_int max_two min_two max_three min_three max_four min_four   -- for this text's walks alone
set_option linter.unusedVariables false
set_option linter.unusedSimpArgs false

/-! ### glob_Best: function 16 -/
def glob_Best.l0 : Nat → ByteArray → ByteArray → ByteArray → Bool → List ByteArray → Int → Int → Option (ByteArray × ByteArray × Bool)
  | 0, _, _, _, _, _, _, _ => none
  | k + 1, x1, x7, x8, x9, x14, x15, x16 => if x16 < x15 then (if 0 ≤ x16 then (if x16 < (x14.length : Int) then ((glob_Match.f k (rdOf ByteArray.empty x14 x16) x1).bind fun bt119 => (if bt119.2 = true then (if x9 = true then ((glob_Compare.f (rdOf ByteArray.empty x14 x16) x7).bind fun t121 => (if t121 < 0 then (glob_Best.l0 k x1 (rdOf ByteArray.empty x14 x16) bt119.1 true x14 x15 (wrap64 (x16 + 1))) else (glob_Best.l0 k x1 x7 x8 x9 x14 x15 (wrap64 (x16 + 1))))) else (glob_Best.l0 k x1 (rdOf ByteArray.empty x14 x16) bt119.1 true x14 x15 (wrap64 (x16 + 1)))) else (glob_Best.l0 k x1 x7 x8 x9 x14 x15 (wrap64 (x16 + 1))))) else (none)) else (none)) else (some (x7, x8, x9))
def glob_Best.f (k : Nat) (l0 : List ByteArray) (a1 : ByteArray) : Option (ByteArray × ByteArray × Bool) := glob_Best.l0 k a1 (⟨#[]⟩ : ByteArray) (⟨#[]⟩ : ByteArray) false l0 (l0.length : Int) 0
theorem glob_Best.mono_l : ∀ k, (∀ y0 y1 y2 y3 y4 y5 y6, LeO (glob_Best.l0 k y0 y1 y2 y3 y4 y5 y6) (glob_Best.l0 (k + 1) y0 y1 y2 y3 y4 y5 y6))
  | 0 => fun _ _ _ _ _ _ _ r h => by simp [glob_Best.l0] at h
  | k + 1 => by
    have ih0 := glob_Best.mono_l k
    · intro y0 y1 y2 y3 y4 y5 y6
      unfold glob_Best.l0
      repeat' first
      | (with_reducible exact ih0 _ _ _ _ _ _ _)
      | (with_reducible exact glob_Match.mono _ _ _)
      | (with_reducible exact LeO.refl _)
      | (with_reducible exact LeO.none _)
      | (with_reducible refine LeO.ite ?_ ?_)
      | (with_reducible refine LeO.bind ?_ (fun _ => ?_))
      | exact ih0 _ _ _ _ _ _ _
      | exact glob_Match.mono _ _ _
      | exact LeO.none _
      | refine LeO.ite ?_ ?_
      | refine LeO.bind ?_ (fun _ => ?_)
theorem glob_Best.mono : ∀ a0 a1 k, LeO (glob_Best.f k a0 a1) (glob_Best.f (k + 1) a0 a1) := by
  intro a0 a1 k
  have ih0 := glob_Best.mono_l k
  unfold glob_Best.f
  repeat' first
      | (with_reducible exact ih0 _ _ _ _ _ _ _)
      | (with_reducible exact glob_Match.mono _ _ _)
      | (with_reducible exact LeO.refl _)
      | (with_reducible exact LeO.none _)
      | (with_reducible refine LeO.ite ?_ ?_)
      | (with_reducible refine LeO.bind ?_ (fun _ => ?_))
      | exact ih0 _ _ _ _ _ _ _
      | exact glob_Match.mono _ _ _
      | exact LeO.none _
      | refine LeO.ite ?_ ?_
      | refine LeO.bind ?_ (fun _ => ?_)
set_option maxHeartbeats 8000000 in
set_option maxRecDepth 100000 in
theorem glob_Best.calls (k : Nat) (A0 : Option Addr) (c0 : Nat) (l0 : List ByteArray) (a1 : ByteArray) (r1 : ByteArray) (r2 : ByteArray) (r3 : Bool) (w : World) (hr0 : Kd.C Kd.string w A0 l0.length l0) (hc0 : l0.length ≤ c0) (h : glob_Best.f k l0 a1 = some (r1, r2, r3)) :
    Calls Try.prog 16 #[.slice A0 l0.length c0, .string a1] w fun e w' => e = .returned (.tuple #[.string r1, .string r2, .bool r3]) ∧ Below w.heap.size w w' := by
  have HR0 := Aside0.mk hr0
  have HC0 := Aside0.mk hc0
  clear hr0 hc0
  have HB := Aside0.mk (Below.refl w.heap.size w)
  have H : (glob_Best.l0 k a1 (⟨#[]⟩ : ByteArray) (⟨#[]⟩ : ByteArray) false l0 (l0.length : Int) 0) = some (r1, r2, r3) := h
  clear h
  have H' := Aside0.mk H
  clear H
  go_enter Try.func16, Try.ntmps16
  go_wp2
  go_loopg [7, 8, 9, 16] k (fun kq v7 v8 v9 v16 w' => ∃ (x7_1 : ByteArray) (x8_1 : ByteArray) (x9_1 : Bool) (x16_1 : Int), v7 = .string x7_1 ∧ v8 = .string x8_1 ∧ v9 = .bool x9_1 ∧ v16 = .int .i64 x16_1 ∧ Aside0 (glob_Best.l0 kq a1 x7_1 x8_1 x9_1 l0 (l0.length : Int) x16_1 = some (r1, r2, r3)) ∧ Aside0 (kq ≤ k) ∧ Aside0 (Below w.heap.size w w'))
  case atStart => exact ⟨((⟨#[]⟩ : ByteArray)), ((⟨#[]⟩ : ByteArray)), (false), (0), (by first | rfl | (simp; done) | (simp [*]; done)), (by first | rfl | (simp; done) | (simp [*]; done)), (by first | rfl | (simp; done) | (simp [*]; done)), (by first | rfl | (simp; done) | (simp [*]; done)), H', ⟨Nat.le_refl _⟩, ⟨by repeat (first | (with_reducible first | exact HB.out | apply below_alloc | apply pw_below_drewN | apply below_drew1) | exact HB.out)⟩⟩
  case round =>
    clear H'
    try clear c1
    try clear p2
    obtain ⟨x7_1, x8_1, x9_1, x16_1, rfl, rfl, rfl, rfl, HA, HK1, HB⟩ := hrel
    cases gk with
    | zero => exact absurd HA.out (by simp [glob_Best.l0])
    | succ k1 =>
      have H := HA.out
      clear HA
      simp only [glob_Best.l0] at H
      by_cases c3 : x16_1 < (l0.length : Int)
      · rw [if_pos c3] at H
        have c3b0 : decide (x16_1 < (l0.length : Int)) = true := decide_eq_true c3
        clear c3
        by_cases c4 : 0 ≤ x16_1
        · rw [if_pos c4] at H
          have c4b0 : decide (0 ≤ x16_1) = true := decide_eq_true c4
          clear c4
          by_cases c5 : x16_1 < (l0.length : Int)
          · rw [if_pos c5] at H
            have c5b0 : decide (x16_1 < (l0.length : Int)) = true := decide_eq_true c5
            clear c5
            replace H := Option.bind_eq_some_iff.mp H
            obtain ⟨⟨t119, t120⟩, A60, H⟩ := H
            replace H : (if t120 = true then (if x9_1 = true then ((glob_Compare.f (rdOf ByteArray.empty l0 x16_1) x7_1).bind fun t121 => (if t121 < 0 then (glob_Best.l0 k1 a1 (rdOf ByteArray.empty l0 x16_1) t119 true l0 (l0.length : Int) (wrap64 (x16_1 + 1))) else (glob_Best.l0 k1 a1 x7_1 x8_1 x9_1 l0 (l0.length : Int) (wrap64 (x16_1 + 1))))) else (glob_Best.l0 k1 a1 (rdOf ByteArray.empty l0 x16_1) t119 true l0 (l0.length : Int) (wrap64 (x16_1 + 1)))) else (glob_Best.l0 k1 a1 x7_1 x8_1 x9_1 l0 (l0.length : Int) (wrap64 (x16_1 + 1)))) = some (r1, r2, r3) := H
            have A6 := Aside0.mk A60
            clear A60
            by_cases c7 : t120 = true
            · subst c7
              have H1 : (if x9_1 = true then ((glob_Compare.f (rdOf ByteArray.empty l0 x16_1) x7_1).bind fun t121 => (if t121 < 0 then (glob_Best.l0 k1 a1 (rdOf ByteArray.empty l0 x16_1) t119 true l0 (l0.length : Int) (wrap64 (x16_1 + 1))) else (glob_Best.l0 k1 a1 x7_1 x8_1 x9_1 l0 (l0.length : Int) (wrap64 (x16_1 + 1))))) else (glob_Best.l0 k1 a1 (rdOf ByteArray.empty l0 x16_1) t119 true l0 (l0.length : Int) (wrap64 (x16_1 + 1)))) = some (r1, r2, r3) := by rw [if_pos rfl] at H; exact H
              clear H
              have H := H1
              clear H1
              by_cases c8 : x9_1 = true
              · subst c8
                have H1 : ((glob_Compare.f (rdOf ByteArray.empty l0 x16_1) x7_1).bind fun t121 => (if t121 < 0 then (glob_Best.l0 k1 a1 (rdOf ByteArray.empty l0 x16_1) t119 true l0 (l0.length : Int) (wrap64 (x16_1 + 1))) else (glob_Best.l0 k1 a1 x7_1 x8_1 true l0 (l0.length : Int) (wrap64 (x16_1 + 1))))) = some (r1, r2, r3) := by rw [if_pos rfl] at H; exact H
                clear H
                have H := H1
                clear H1
                replace H := Option.bind_eq_some_iff.mp H
                obtain ⟨t121, A90, H⟩ := H
                replace H : (if t121 < 0 then (glob_Best.l0 k1 a1 (rdOf ByteArray.empty l0 x16_1) t119 true l0 (l0.length : Int) (wrap64 (x16_1 + 1))) else (glob_Best.l0 k1 a1 x7_1 x8_1 true l0 (l0.length : Int) (wrap64 (x16_1 + 1)))) = some (r1, r2, r3) := H
                have A9 := Aside0.mk A90
                clear A90
                by_cases c10 : t121 < 0
                · rw [if_pos c10] at H
                  have c10b0 : decide (t121 < 0) = true := decide_eq_true c10
                  clear c10
                  have H' := Aside0.mk H
                  clear H
                  have p118 : 0 ≤ (x16_1 : Int) := of_decide_eq_true (by first | (with_reducible assumption) | assumption)
                  have q118 : x16_1 < (l0.length : Int) := of_decide_eq_true (by first | (with_reducible assumption) | assumption)
                  obtain ⟨ad118, e118, hx118_0⟩ := Kd.at_string HR0.out x16_1 p118 q118
                  cases e118
                  replace hx118_0 := (HB.out.cell (World.block_lt_of_cell? w _ hx118_0)).trans hx118_0
                  replace p118 := eq_true p118
                  replace q118 := eq_true q118
                  go_wp2_with (first | ((with_reducible refine gate_callee (f := 11) rfl ?_); refine goesL_ (some 23) rfl rfl Try.func11 (by kernel_rfl) rfl #[.string (rdOf ByteArray.empty l0 x16_1), .string a1] rfl (by (try simp only [List.map_toArray, List.map_cons, List.map_nil]); first | done | rfl | (simp only [List.length_drop, List.length_take]; rfl)) ?_; (with_reducible refine (glob_Match.calls k1 (rdOf ByteArray.empty l0 x16_1) a1 t119 true _ A6.out).mono ?_); rintro e w' ⟨rfl, ⟨nd, rfl⟩⟩; refine ⟨_, rfl, ?_⟩) | (go_at_call 14; (with_reducible refine (glob_Compare.calls (rdOf ByteArray.empty l0 x16_1) x7_1 t121 _ A9.out).mono ?_); rintro e w11 ⟨rfl, hb⟩; have n0_ := Aside0.mk (below_step (by repeat (first | (with_reducible first | exact HB.out | apply below_alloc | apply pw_below_drewN | apply below_drew1) | exact HB.out)) hb); clear HB; have HB := n0_; clear n0_; (try clear hb); (try clear hb2); (try clear hk); (try clear hi)))
                  go_roundg k1
                  case measure => have := HK1.out; omega
                  case rel => exact ⟨(rdOf ByteArray.empty l0 x16_1), (t119), (true), (wrap64 (x16_1 + 1)), (by first | rfl | (simp; done) | (simp [*]; done)), (by first | rfl | (simp; done) | (simp [*]; done)), (by first | rfl | (simp; done) | (simp [*]; done)), (by first | rfl | (simp; done) | (simp [*]; done)), H', ⟨by have := HK1.out; omega⟩, ⟨by repeat (first | (with_reducible first | exact HB.out | apply below_alloc | apply pw_below_drewN | apply below_drew1) | exact HB.out)⟩⟩
                · rw [if_neg c10] at H
                  have c10b0 : decide (t121 < 0) = false := decide_eq_false c10
                  clear c10
                  have H' := Aside0.mk H
                  clear H
                  have p118 : 0 ≤ (x16_1 : Int) := of_decide_eq_true (by first | (with_reducible assumption) | assumption)
                  have q118 : x16_1 < (l0.length : Int) := of_decide_eq_true (by first | (with_reducible assumption) | assumption)
                  obtain ⟨ad118, e118, hx118_0⟩ := Kd.at_string HR0.out x16_1 p118 q118
                  cases e118
                  replace hx118_0 := (HB.out.cell (World.block_lt_of_cell? w _ hx118_0)).trans hx118_0
                  replace p118 := eq_true p118
                  replace q118 := eq_true q118
                  go_wp2_with (first | ((with_reducible refine gate_callee (f := 11) rfl ?_); refine goesL_ (some 23) rfl rfl Try.func11 (by kernel_rfl) rfl #[.string (rdOf ByteArray.empty l0 x16_1), .string a1] rfl (by (try simp only [List.map_toArray, List.map_cons, List.map_nil]); first | done | rfl | (simp only [List.length_drop, List.length_take]; rfl)) ?_; (with_reducible refine (glob_Match.calls k1 (rdOf ByteArray.empty l0 x16_1) a1 t119 true _ A6.out).mono ?_); rintro e w' ⟨rfl, ⟨nd, rfl⟩⟩; refine ⟨_, rfl, ?_⟩) | (go_at_call 14; (with_reducible refine (glob_Compare.calls (rdOf ByteArray.empty l0 x16_1) x7_1 t121 _ A9.out).mono ?_); rintro e w12 ⟨rfl, hb⟩; have n0_ := Aside0.mk (below_step (by repeat (first | (with_reducible first | exact HB.out | apply below_alloc | apply pw_below_drewN | apply below_drew1) | exact HB.out)) hb); clear HB; have HB := n0_; clear n0_; (try clear hb); (try clear hb2); (try clear hk); (try clear hi)))
                  go_roundg k1
                  case measure => have := HK1.out; omega
                  case rel => exact ⟨(x7_1), (x8_1), (true), (wrap64 (x16_1 + 1)), (by first | rfl | (simp; done) | (simp [*]; done)), (by first | rfl | (simp; done) | (simp [*]; done)), (by first | rfl | (simp; done) | (simp [*]; done)), (by first | rfl | (simp; done) | (simp [*]; done)), H', ⟨by have := HK1.out; omega⟩, ⟨by repeat (first | (with_reducible first | exact HB.out | apply below_alloc | apply pw_below_drewN | apply below_drew1) | exact HB.out)⟩⟩
              · replace c8 := Bool.eq_false_iff.mpr c8
                subst c8
                have H1 : (glob_Best.l0 k1 a1 (rdOf ByteArray.empty l0 x16_1) t119 true l0 (l0.length : Int) (wrap64 (x16_1 + 1))) = some (r1, r2, r3) := by rw [if_neg (show ¬ (false = true) by decide)] at H; exact H
                clear H
                have H := H1
                clear H1
                have H' := Aside0.mk H
                clear H
                have p118 : 0 ≤ (x16_1 : Int) := of_decide_eq_true (by first | (with_reducible assumption) | assumption)
                have q118 : x16_1 < (l0.length : Int) := of_decide_eq_true (by first | (with_reducible assumption) | assumption)
                obtain ⟨ad118, e118, hx118_0⟩ := Kd.at_string HR0.out x16_1 p118 q118
                cases e118
                replace hx118_0 := (HB.out.cell (World.block_lt_of_cell? w _ hx118_0)).trans hx118_0
                replace p118 := eq_true p118
                replace q118 := eq_true q118
                go_wp2_with (first | ((with_reducible refine gate_callee (f := 11) rfl ?_); refine goesL_ (some 23) rfl rfl Try.func11 (by kernel_rfl) rfl #[.string (rdOf ByteArray.empty l0 x16_1), .string a1] rfl (by (try simp only [List.map_toArray, List.map_cons, List.map_nil]); first | done | rfl | (simp only [List.length_drop, List.length_take]; rfl)) ?_; (with_reducible refine (glob_Match.calls k1 (rdOf ByteArray.empty l0 x16_1) a1 t119 true _ A6.out).mono ?_); rintro e w' ⟨rfl, ⟨nd, rfl⟩⟩; refine ⟨_, rfl, ?_⟩))
                go_roundg k1
                case measure => have := HK1.out; omega
                case rel => exact ⟨(rdOf ByteArray.empty l0 x16_1), (t119), (true), (wrap64 (x16_1 + 1)), (by first | rfl | (simp; done) | (simp [*]; done)), (by first | rfl | (simp; done) | (simp [*]; done)), (by first | rfl | (simp; done) | (simp [*]; done)), (by first | rfl | (simp; done) | (simp [*]; done)), H', ⟨by have := HK1.out; omega⟩, ⟨by repeat (first | (with_reducible first | exact HB.out | apply below_alloc | apply pw_below_drewN | apply below_drew1) | exact HB.out)⟩⟩
            · replace c7 := Bool.eq_false_iff.mpr c7
              subst c7
              have H1 : (glob_Best.l0 k1 a1 x7_1 x8_1 x9_1 l0 (l0.length : Int) (wrap64 (x16_1 + 1))) = some (r1, r2, r3) := by rw [if_neg (show ¬ (false = true) by decide)] at H; exact H
              clear H
              have H := H1
              clear H1
              have H' := Aside0.mk H
              clear H
              have p118 : 0 ≤ (x16_1 : Int) := of_decide_eq_true (by first | (with_reducible assumption) | assumption)
              have q118 : x16_1 < (l0.length : Int) := of_decide_eq_true (by first | (with_reducible assumption) | assumption)
              obtain ⟨ad118, e118, hx118_0⟩ := Kd.at_string HR0.out x16_1 p118 q118
              cases e118
              replace hx118_0 := (HB.out.cell (World.block_lt_of_cell? w _ hx118_0)).trans hx118_0
              replace p118 := eq_true p118
              replace q118 := eq_true q118
              go_wp2_with (first | ((with_reducible refine gate_callee (f := 11) rfl ?_); refine goesL_ (some 23) rfl rfl Try.func11 (by kernel_rfl) rfl #[.string (rdOf ByteArray.empty l0 x16_1), .string a1] rfl (by (try simp only [List.map_toArray, List.map_cons, List.map_nil]); first | done | rfl | (simp only [List.length_drop, List.length_take]; rfl)) ?_; (with_reducible refine (glob_Match.calls k1 (rdOf ByteArray.empty l0 x16_1) a1 t119 false _ A6.out).mono ?_); rintro e w' ⟨rfl, ⟨nd, rfl⟩⟩; refine ⟨_, rfl, ?_⟩))
              go_roundg k1
              case measure => have := HK1.out; omega
              case rel => exact ⟨(x7_1), (x8_1), (x9_1), (wrap64 (x16_1 + 1)), (by first | rfl | (simp; done) | (simp [*]; done)), (by first | rfl | (simp; done) | (simp [*]; done)), (by first | rfl | (simp; done) | (simp [*]; done)), (by first | rfl | (simp; done) | (simp [*]; done)), H', ⟨by have := HK1.out; omega⟩, ⟨by repeat (first | (with_reducible first | exact HB.out | apply below_alloc | apply pw_below_drewN | apply below_drew1) | exact HB.out)⟩⟩
          · rw [if_neg c5] at H
            exact absurd H (by simp)
        · rw [if_neg c4] at H
          exact absurd H (by simp)
      · rw [if_neg c3] at H
        have c3b0 : decide (x16_1 < (l0.length : Int)) = false := decide_eq_false c3
        clear c3
        simp only [Option.some.injEq, Prod.mk.injEq] at H
        obtain ⟨rfl, rfl, rfl⟩ := H
        go_wp2
        go_ret3
        exact ⟨by first | rfl | (simp [errW_none, errW_some] <;> rfl) | (simp [*, errW_none, errW_some] <;> rfl), by repeat (first | (with_reducible first | exact HB.out | apply below_alloc | apply pw_below_drewN | apply below_drew1) | exact HB.out)⟩

/-! ### gossamerlaw24_awake: function 9 (given) -/
def gossamerlaw24_awake.f : Option Bool := some true
theorem best_awake : glob_Best.f 30 [⟨#[46, 47, 42]⟩, ⟨#[46, 47, 97, 47, 42]⟩] ⟨#[46, 47, 97, 47, 98]⟩ = some (⟨#[46, 47, 97, 47, 42]⟩, ⟨#[98]⟩, true) := by kernel_rfl
theorem match_awake1 : glob_Match.f 30 ⟨#[46, 47, 97, 47, 42, 46, 106, 115]⟩ ⟨#[46, 47, 97, 47, 98, 46, 106, 115]⟩ = some (⟨#[98]⟩, true) := by kernel_rfl
theorem match_awake2 : glob_Match.f 30 ⟨#[46, 47, 97, 47, 42, 46, 106, 115]⟩ ⟨#[46, 47, 97, 47, 46, 106, 115]⟩ = some (⟨#[]⟩, false) := by kernel_rfl
theorem cmp_awake : glob_Compare.f ⟨#[97, 42]⟩ ⟨#[42]⟩ = some (-1) := by kernel_rfl
theorem wt_awake : globAt ⟨#[97, 42, 99]⟩ = 2 := by kernel_rfl
theorem reads_two_s (w : World) (x y : ByteArray) (t : TypeId) : Kd.C Kd.string (w.alloc (.cells #[.string x, .string y] t)) (some ⟨w.heap.size, 0, none⟩) [x, y].length [x, y] := by
  refine ⟨rfl, by simp, fun _ => ⟨_, rfl, ?_⟩⟩
  intro j p hj
  match j, hj with
  | 0, hj =>
    obtain rfl := Option.some.inj hj
    exact ⟨[.string x], rfl, rfl, fun i u hi => by
      match i, hi with
      | 0, hi => obtain rfl := Option.some.inj hi; simp [Addr.add]⟩
  | 1, hj =>
    obtain rfl := Option.some.inj hj
    exact ⟨[.string y], rfl, rfl, fun i u hi => by
      match i, hi with
      | 0, hi => obtain rfl := Option.some.inj hi; simp [Addr.add, show (Kd.string).sz = 1 from rfl]⟩
  | j + 2, hj => simp at hj
set_option maxHeartbeats 1000000 in
theorem gossamerlaw24_awake.calls (r : Bool) (w : World) (h : gossamerlaw24_awake.f = some r) :
    Calls Try.prog 9 #[] w fun e w' => e = .returned (.bool r) ∧ Below w.heap.size w w' := by
  obtain rfl := Option.some.inj h
  clear h
  go_enter Try.func9, Try.ntmps9
  go_wp2_with fail
  refine (glob_Best.calls 30 _ 2 _ _ _ _ _ _ (reads_two_s _ _ _ _) (Nat.le_refl _) best_awake).mono ?_
  rintro e w1 ⟨rfl, hb⟩
  have HB := Aside0.mk hb
  clear hb
  go_wp2_with fail
  refine (glob_Match.calls 30 _ _ _ _ _ match_awake1).mono ?_
  rintro e w2 ⟨rfl, hd⟩
  obtain ⟨m, rfl⟩ := hd.out
  go_wp2_with fail
  refine (glob_Match.calls 30 _ _ _ _ _ match_awake2).mono ?_
  rintro e w2 ⟨rfl, hd⟩
  obtain ⟨m2, rfl⟩ := hd.out
  go_wp2_with fail
  have ho1 : (FloatKind.f64.format.order (floatOfInt .f64 (globAt ⟨#[97, 42, 99]⟩)) 4611686018427387904 == some .eq) = true := by kernel_rfl
  have ho2 : (FloatKind.f64.format.order (floatOfInt .f64 ((⟨#[97, 42, 99]⟩ : ByteArray).size : Int)) 4613937818241073152 == some .eq) = true := by kernel_rfl
  refine (glob_Weight.any _ _ (by decide)).mono ?_
  rintro e w2 ⟨rfl, rfl⟩
  go_wp2_with fail
  refine (glob_Compare.calls _ _ _ _ cmp_awake).mono ?_
  rintro e w2 ⟨rfl, hb2⟩
  have HB2 := Aside0.mk hb2
  clear hb2
  go_wp2_with fail
  go_ret
  have hb := HB.out
  have hb2 := HB2.out
  have hA : Below w.heap.size w w1 := below_then (below_alloc (Below.refl _ _) _) (below_alloc (Below.refl _ _) _).size hb
  exact ⟨rfl, below_then (pw_below_drewN hA _) hA.size hb2⟩


/-! ### gossamerref24_Weight: function 10 -/
def gossamerref24_Weight.l0 : Nat → ByteArray → Int → Option (Int × Int)
  | 0, _, _ => none
  | k + 1, x0, x4 => if x4 < (x0.size : Int) then (if 0 ≤ x4 then (if (bt x0 x4) = 42 then (some (wrap64 (x4 + 1), (x0.size : Int))) else (gossamerref24_Weight.l0 k x0 (wrap64 (x4 + 1)))) else (none)) else (some (0, (x0.size : Int)))
def gossamerref24_Weight.f (k : Nat) (a0 : ByteArray) : Option (Int × Int) := gossamerref24_Weight.l0 k a0 0
theorem gossamerref24_Weight.mono_l : ∀ k, (∀ y0 y1, LeO (gossamerref24_Weight.l0 k y0 y1) (gossamerref24_Weight.l0 (k + 1) y0 y1))
  | 0 => fun _ _ r h => by simp [gossamerref24_Weight.l0] at h
  | k + 1 => by
    have ih0 := gossamerref24_Weight.mono_l k
    · intro y0 y1
      unfold gossamerref24_Weight.l0
      repeat' first
      | (with_reducible exact ih0 _ _)
      | (with_reducible exact LeO.refl _)
      | (with_reducible exact LeO.none _)
      | (with_reducible refine LeO.ite ?_ ?_)
      | (with_reducible refine LeO.bind ?_ (fun _ => ?_))
      | exact ih0 _ _
      | exact LeO.none _
      | refine LeO.ite ?_ ?_
      | refine LeO.bind ?_ (fun _ => ?_)
theorem gossamerref24_Weight.mono : ∀ a0 k, LeO (gossamerref24_Weight.f k a0) (gossamerref24_Weight.f (k + 1) a0) := by
  intro a0 k
  have ih0 := gossamerref24_Weight.mono_l k
  unfold gossamerref24_Weight.f
  repeat' first
      | (with_reducible exact ih0 _ _)
      | (with_reducible exact LeO.refl _)
      | (with_reducible exact LeO.none _)
      | (with_reducible refine LeO.ite ?_ ?_)
      | (with_reducible refine LeO.bind ?_ (fun _ => ?_))
      | exact ih0 _ _
      | exact LeO.none _
      | refine LeO.ite ?_ ?_
      | refine LeO.bind ?_ (fun _ => ?_)
set_option maxHeartbeats 8000000 in
set_option maxRecDepth 100000 in
theorem gossamerref24_Weight.calls (k : Nat) (a0 : ByteArray) (r1 : Int) (r2 : Int) (w : World) (h : gossamerref24_Weight.f k a0 = some (r1, r2)) :
    Calls Try.prog 10 #[.string a0] w fun e w' => e = .returned (.tuple #[.int .i64 r1, .int .i64 r2]) ∧ Drawn0 w w' := by
  have H : (gossamerref24_Weight.l0 k a0 0) = some (r1, r2) := h
  clear h
  have H' := Aside0.mk H
  clear H
  go_enter Try.func10, Try.ntmps10
  go_wp2
  go_loopg [4] k (fun kq v4 w' => ∃ (x4_1 : Int), v4 = .int .i64 x4_1 ∧ Aside0 (gossamerref24_Weight.l0 kq a0 x4_1 = some (r1, r2)) ∧ Aside0 (kq ≤ k) ∧ Drawn0 w w')
  case atStart => exact ⟨(0), (by first | rfl | (simp; done) | (simp [*]; done)), H', ⟨Nat.le_refl _⟩, by repeat (first | exact Drawn0.refl _ | apply Drawn0.step)⟩
  case round =>
    clear H'
    try clear c1
    obtain ⟨x4_1, rfl, HA, HK1, ⟨m1, rfl⟩⟩ := hrel
    cases gk with
    | zero => exact absurd HA.out (by simp [gossamerref24_Weight.l0])
    | succ k1 =>
      have H := HA.out
      clear HA
      simp only [gossamerref24_Weight.l0] at H
      by_cases c2 : x4_1 < (a0.size : Int)
      · rw [if_pos c2] at H
        have c2b0 : decide (x4_1 < (a0.size : Int)) = true := decide_eq_true c2
        clear c2
        by_cases c3 : 0 ≤ x4_1
        · rw [if_pos c3] at H
          have c3b0 : decide (0 ≤ x4_1) = true := decide_eq_true c3
          clear c3
          by_cases c5 : (bt a0 x4_1) = 42
          · rw [if_pos c5] at H
            have c5b0 : ((bt a0 x4_1) == 42) = true := beq_iff_eq.mpr c5
            have c5b1 : ((bt a0 x4_1) != 42) = false := bne_eq_false_iff_eq.mpr c5
            clear c5
            simp only [Option.some.injEq, Prod.mk.injEq] at H
            obtain ⟨rfl, rfl⟩ := H
            have p4 : 0 ≤ (x4_1 : Int) := of_decide_eq_true (by first | (with_reducible assumption) | assumption)
            have q4 : x4_1 < (a0.size : Int) := of_decide_eq_true (by first | (with_reducible assumption) | assumption)
            have hx4 := bt_at a0 x4_1
            replace p4 := eq_true p4
            replace q4 := eq_true q4
            go_wp2
            go_ret2
            exact ⟨by first | rfl | (simp; done) | (simp [*]; done), by repeat (first | exact Drawn0.refl _ | apply Drawn0.step)⟩
          · rw [if_neg c5] at H
            have c5b0 : ((bt a0 x4_1) == 42) = false := beq_eq_false_iff_ne.mpr c5
            have c5b1 : ((bt a0 x4_1) != 42) = true := bne_iff_ne.mpr c5
            have H' := Aside0.mk H
            clear H
            have p4 : 0 ≤ (x4_1 : Int) := of_decide_eq_true (by first | (with_reducible assumption) | assumption)
            have q4 : x4_1 < (a0.size : Int) := of_decide_eq_true (by first | (with_reducible assumption) | assumption)
            have hx4 := bt_at a0 x4_1
            replace p4 := eq_true p4
            replace q4 := eq_true q4
            go_wp2
            go_roundg k1
            case measure => have := HK1.out; omega
            case rel => exact ⟨(wrap64 (x4_1 + 1)), (by first | rfl | (simp; done) | (simp [*]; done)), H', ⟨by have := HK1.out; omega⟩, by repeat (first | exact Drawn0.refl _ | apply Drawn0.step)⟩
        · rw [if_neg c3] at H
          exact absurd H (by simp)
      · rw [if_neg c2] at H
        have c2b0 : decide (x4_1 < (a0.size : Int)) = false := decide_eq_false c2
        clear c2
        simp only [Option.some.injEq, Prod.mk.injEq] at H
        obtain ⟨rfl, rfl⟩ := H
        go_wp2
        go_ret2
        exact ⟨by first | rfl | (simp; done) | (simp [*]; done), by repeat (first | exact Drawn0.refl _ | apply Drawn0.step)⟩

/-! ### gossamerref24_star: function 22 -/
def gossamerref24_star.l0 : Nat → ByteArray → Int → Int → Int → Option (Int)
  | 0, _, _, _, _ => none
  | k + 1, x0, x3, x4, x5 => if x5 < (x0.size : Int) then (if 0 ≤ x5 then (if (bt x0 x5) = 42 then (gossamerref24_star.l0 k x0 x5 (wrap64 (x4 + 1)) (wrap64 (x5 + 1))) else (gossamerref24_star.l0 k x0 x3 x4 (wrap64 (x5 + 1)))) else (none)) else (if x4 = 1 then (some x3) else (some (-1)))
def gossamerref24_star.f (k : Nat) (a0 : ByteArray) : Option (Int) := gossamerref24_star.l0 k a0 (-1) 0 0
theorem gossamerref24_star.mono_l : ∀ k, (∀ y0 y1 y2 y3, LeO (gossamerref24_star.l0 k y0 y1 y2 y3) (gossamerref24_star.l0 (k + 1) y0 y1 y2 y3))
  | 0 => fun _ _ _ _ r h => by simp [gossamerref24_star.l0] at h
  | k + 1 => by
    have ih0 := gossamerref24_star.mono_l k
    · intro y0 y1 y2 y3
      unfold gossamerref24_star.l0
      repeat' first
      | (with_reducible exact ih0 _ _ _ _)
      | (with_reducible exact LeO.refl _)
      | (with_reducible exact LeO.none _)
      | (with_reducible refine LeO.ite ?_ ?_)
      | (with_reducible refine LeO.bind ?_ (fun _ => ?_))
      | exact ih0 _ _ _ _
      | exact LeO.none _
      | refine LeO.ite ?_ ?_
      | refine LeO.bind ?_ (fun _ => ?_)
theorem gossamerref24_star.mono : ∀ a0 k, LeO (gossamerref24_star.f k a0) (gossamerref24_star.f (k + 1) a0) := by
  intro a0 k
  have ih0 := gossamerref24_star.mono_l k
  unfold gossamerref24_star.f
  repeat' first
      | (with_reducible exact ih0 _ _ _ _)
      | (with_reducible exact LeO.refl _)
      | (with_reducible exact LeO.none _)
      | (with_reducible refine LeO.ite ?_ ?_)
      | (with_reducible refine LeO.bind ?_ (fun _ => ?_))
      | exact ih0 _ _ _ _
      | exact LeO.none _
      | refine LeO.ite ?_ ?_
      | refine LeO.bind ?_ (fun _ => ?_)
set_option maxHeartbeats 8000000 in
set_option maxRecDepth 100000 in
theorem gossamerref24_star.calls (k : Nat) (a0 : ByteArray) (r : Int) (w : World) (h : gossamerref24_star.f k a0 = some r) :
    Calls Try.prog 22 #[.string a0] w fun e w' => e = .returned (.int .i64 r) ∧ Drawn0 w w' := by
  have H : (gossamerref24_star.l0 k a0 (-1) 0 0) = some r := h
  clear h
  have H' := Aside0.mk H
  clear H
  go_enter Try.func22, Try.ntmps22
  go_wp2
  go_loopg [3, 4, 5] k (fun kq v3 v4 v5 w' => ∃ (x3_1 : Int) (x4_1 : Int) (x5_1 : Int), v3 = .int .i64 x3_1 ∧ v4 = .int .i64 x4_1 ∧ v5 = .int .i64 x5_1 ∧ Aside0 (gossamerref24_star.l0 kq a0 x3_1 x4_1 x5_1 = some r) ∧ Aside0 (kq ≤ k) ∧ Drawn0 w w')
  case atStart => exact ⟨((-1)), (0), (0), (by first | rfl | (simp; done) | (simp [*]; done)), (by first | rfl | (simp; done) | (simp [*]; done)), (by first | rfl | (simp; done) | (simp [*]; done)), H', ⟨Nat.le_refl _⟩, by repeat (first | exact Drawn0.refl _ | apply Drawn0.step)⟩
  case round =>
    clear H'
    obtain ⟨x3_1, x4_1, x5_1, rfl, rfl, rfl, HA, HK1, ⟨m1, rfl⟩⟩ := hrel
    cases gk with
    | zero => exact absurd HA.out (by simp [gossamerref24_star.l0])
    | succ k1 =>
      have H := HA.out
      clear HA
      simp only [gossamerref24_star.l0] at H
      by_cases c2 : x5_1 < (a0.size : Int)
      · rw [if_pos c2] at H
        have c2b0 : decide (x5_1 < (a0.size : Int)) = true := decide_eq_true c2
        clear c2
        by_cases c3 : 0 ≤ x5_1
        · rw [if_pos c3] at H
          have c3b0 : decide (0 ≤ x5_1) = true := decide_eq_true c3
          clear c3
          by_cases c5 : (bt a0 x5_1) = 42
          · rw [if_pos c5] at H
            have c5b0 : ((bt a0 x5_1) == 42) = true := beq_iff_eq.mpr c5
            have c5b1 : ((bt a0 x5_1) != 42) = false := bne_eq_false_iff_eq.mpr c5
            clear c5
            have H' := Aside0.mk H
            clear H
            have p4 : 0 ≤ (x5_1 : Int) := of_decide_eq_true (by first | (with_reducible assumption) | assumption)
            have q4 : x5_1 < (a0.size : Int) := of_decide_eq_true (by first | (with_reducible assumption) | assumption)
            have hx4 := bt_at a0 x5_1
            replace p4 := eq_true p4
            replace q4 := eq_true q4
            go_wp2
            go_roundg k1
            case measure => have := HK1.out; omega
            case rel => exact ⟨(x5_1), (wrap64 (x4_1 + 1)), (wrap64 (x5_1 + 1)), (by first | rfl | (simp; done) | (simp [*]; done)), (by first | rfl | (simp; done) | (simp [*]; done)), (by first | rfl | (simp; done) | (simp [*]; done)), H', ⟨by have := HK1.out; omega⟩, by repeat (first | exact Drawn0.refl _ | apply Drawn0.step)⟩
          · rw [if_neg c5] at H
            have c5b0 : ((bt a0 x5_1) == 42) = false := beq_eq_false_iff_ne.mpr c5
            have c5b1 : ((bt a0 x5_1) != 42) = true := bne_iff_ne.mpr c5
            have H' := Aside0.mk H
            clear H
            have p4 : 0 ≤ (x5_1 : Int) := of_decide_eq_true (by first | (with_reducible assumption) | assumption)
            have q4 : x5_1 < (a0.size : Int) := of_decide_eq_true (by first | (with_reducible assumption) | assumption)
            have hx4 := bt_at a0 x5_1
            replace p4 := eq_true p4
            replace q4 := eq_true q4
            go_wp2
            go_roundg k1
            case measure => have := HK1.out; omega
            case rel => exact ⟨(x3_1), (x4_1), (wrap64 (x5_1 + 1)), (by first | rfl | (simp; done) | (simp [*]; done)), (by first | rfl | (simp; done) | (simp [*]; done)), (by first | rfl | (simp; done) | (simp [*]; done)), H', ⟨by have := HK1.out; omega⟩, by repeat (first | exact Drawn0.refl _ | apply Drawn0.step)⟩
        · rw [if_neg c3] at H
          exact absurd H (by simp)
      · rw [if_neg c2] at H
        have c2b0 : decide (x5_1 < (a0.size : Int)) = false := decide_eq_false c2
        clear c2
        by_cases c6 : x4_1 = 1
        · rw [if_pos c6] at H
          have c6b0 : (x4_1 == 1) = true := beq_iff_eq.mpr c6
          have c6b1 : (x4_1 != 1) = false := bne_eq_false_iff_eq.mpr c6
          clear c6
          obtain rfl := Option.some.inj H
          go_wp2
          go_ret
          exact ⟨by first | rfl | (simp; done) | (simp [*]; done), by repeat (first | exact Drawn0.refl _ | apply Drawn0.step)⟩
        · rw [if_neg c6] at H
          have c6b0 : (x4_1 == 1) = false := beq_eq_false_iff_ne.mpr c6
          have c6b1 : (x4_1 != 1) = true := bne_iff_ne.mpr c6
          obtain rfl := Option.some.inj H
          go_wp2
          go_ret
          exact ⟨by first | rfl | (simp; done) | (simp [*]; done), by repeat (first | exact Drawn0.refl _ | apply Drawn0.step)⟩

/-! ### gossamerref24_Match: function 12 -/
def gossamerref24_Match.j0 : Nat → ByteArray → ByteArray → Int → Bool → Option (ByteArray × Bool)
  | 0, _, _, _, _ => none
  | k + 1, x0, x1, x6, x18 => if x18 = true then (some ((⟨#[]⟩ : ByteArray), false)) else (if 0 ≤ (wrap64 (x6 + 1)) then (if (wrap64 (x6 + 1)) ≤ (x0.size : Int) then (if 0 ≤ x6 then (if x6 ≤ (x1.size : Int) then (if x6 ≤ (x0.size : Int) then (if (x1.extract 0 (x6 : Int).toNat).toList = (x0.extract 0 (x6 : Int).toNat).toList then (if 0 ≤ (wrap64 ((x1.size : Int) - ((x0.extract ((wrap64 (x6 + 1)) : Int).toNat x0.size).size : Int))) then (if (wrap64 ((x1.size : Int) - ((x0.extract ((wrap64 (x6 + 1)) : Int).toNat x0.size).size : Int))) ≤ (x1.size : Int) then (if (x1.extract ((wrap64 ((x1.size : Int) - ((x0.extract ((wrap64 (x6 + 1)) : Int).toNat x0.size).size : Int))) : Int).toNat x1.size).toList = (x0.extract ((wrap64 (x6 + 1)) : Int).toNat x0.size).toList then (if x6 ≤ (wrap64 ((x1.size : Int) - ((x0.extract ((wrap64 (x6 + 1)) : Int).toNat x0.size).size : Int))) then (some (x1.extract (x6 : Int).toNat ((wrap64 ((x1.size : Int) - ((x0.extract ((wrap64 (x6 + 1)) : Int).toNat x0.size).size : Int))) : Int).toNat, true)) else (none)) else (some ((⟨#[]⟩ : ByteArray), false))) else (none)) else (none)) else (some ((⟨#[]⟩ : ByteArray), false))) else (none)) else (none)) else (none)) else (none)) else (none))
def gossamerref24_Match.f (k : Nat) (a0 : ByteArray) (a1 : ByteArray) : Option (ByteArray × Bool) := (gossamerref24_star.f k a0).bind fun t122 => (if t122 < 0 then (gossamerref24_Match.j0 k a0 a1 t122 true) else (gossamerref24_Match.j0 k a0 a1 t122 (decide ((a1.size : Int) < (a0.size : Int)))))
theorem gossamerref24_Match.mono_l : ∀ k, (∀ y0 y1 y2 y3, LeO (gossamerref24_Match.j0 k y0 y1 y2 y3) (gossamerref24_Match.j0 (k + 1) y0 y1 y2 y3))
  | 0 => fun _ _ _ _ r h => by simp [gossamerref24_Match.j0] at h
  | k + 1 => by
    have ih0 := gossamerref24_Match.mono_l k
    · intro y0 y1 y2 y3
      unfold gossamerref24_Match.j0
      repeat' first
      | (with_reducible exact ih0 _ _ _ _)
      | (with_reducible exact gossamerref24_star.mono _ _)
      | (with_reducible exact LeO.refl _)
      | (with_reducible exact LeO.none _)
      | (with_reducible refine LeO.ite ?_ ?_)
      | (with_reducible refine LeO.bind ?_ (fun _ => ?_))
      | exact ih0 _ _ _ _
      | exact gossamerref24_star.mono _ _
      | exact LeO.none _
      | refine LeO.ite ?_ ?_
      | refine LeO.bind ?_ (fun _ => ?_)
theorem gossamerref24_Match.mono : ∀ a0 a1 k, LeO (gossamerref24_Match.f k a0 a1) (gossamerref24_Match.f (k + 1) a0 a1) := by
  intro a0 a1 k
  have ih0 := gossamerref24_Match.mono_l k
  unfold gossamerref24_Match.f
  repeat' first
      | (with_reducible exact ih0 _ _ _ _)
      | (with_reducible exact gossamerref24_star.mono _ _)
      | (with_reducible exact LeO.refl _)
      | (with_reducible exact LeO.none _)
      | (with_reducible refine LeO.ite ?_ ?_)
      | (with_reducible refine LeO.bind ?_ (fun _ => ?_))
      | exact ih0 _ _ _ _
      | exact gossamerref24_star.mono _ _
      | exact LeO.none _
      | refine LeO.ite ?_ ?_
      | refine LeO.bind ?_ (fun _ => ?_)
set_option maxHeartbeats 8000000 in
set_option maxRecDepth 100000 in
theorem gossamerref24_Match.calls (k : Nat) (a0 : ByteArray) (a1 : ByteArray) (r1 : ByteArray) (r2 : Bool) (w : World) (h : gossamerref24_Match.f k a0 a1 = some (r1, r2)) :
    Calls Try.prog 12 #[.string a0, .string a1] w fun e w' => e = .returned (.tuple #[.string r1, .bool r2]) ∧ Drawn0 w w' := by
  have H : ((gossamerref24_star.f k a0).bind fun t122 => (if t122 < 0 then (gossamerref24_Match.j0 k a0 a1 t122 true) else (gossamerref24_Match.j0 k a0 a1 t122 (decide ((a1.size : Int) < (a0.size : Int)))))) = some (r1, r2) := h
  clear h
  replace H := Option.bind_eq_some_iff.mp H
  obtain ⟨t122, A30, H⟩ := H
  replace H : (if t122 < 0 then (gossamerref24_Match.j0 k a0 a1 t122 true) else (gossamerref24_Match.j0 k a0 a1 t122 (decide ((a1.size : Int) < (a0.size : Int))))) = some (r1, r2) := H
  have A3 := Aside0.mk A30
  clear A30
  have HC4 := Aside0.mk H
  clear H
  go_enter Try.func12, Try.ntmps12
  go_upto_region 2 with (first | (go_at_call 22; (with_reducible refine (gossamerref24_star.calls k a0 t122 _ A3.out).mono ?_); rintro e w' ⟨rfl, ⟨nd, rfl⟩⟩; (try first | exact ⟨rfl, _, World.drewN_drewN _ _ _⟩ | exact ⟨rfl, _, Eq.trans (World.drewN_drewN _ _ _) (congrArg (World.drewN _) (Nat.add_assoc _ _ _))⟩)))
  repeat (go_quiet (first | (go_at_call 22; (with_reducible refine (gossamerref24_star.calls k a0 t122 _ A3.out).mono ?_); rintro e w' ⟨rfl, ⟨nd, rfl⟩⟩; (try first | exact ⟨rfl, _, World.drewN_drewN _ _ _⟩ | exact ⟨rfl, _, Eq.trans (World.drewN_drewN _ _ _) (congrArg (World.drewN _) (Nat.add_assoc _ _ _))⟩))); go_upto_region 2 with (first | (go_at_call 22; (with_reducible refine (gossamerref24_star.calls k a0 t122 _ A3.out).mono ?_); rintro e w' ⟨rfl, ⟨nd, rfl⟩⟩; (try first | exact ⟨rfl, _, World.drewN_drewN _ _ _⟩ | exact ⟨rfl, _, Eq.trans (World.drewN_drewN _ _ _) (congrArg (World.drewN _) (Nat.add_assoc _ _ _))⟩))))
  (try simp only [Act.put, List.setIfInBounds_toArray, List.set_cons_zero, List.set_cons_succ])
  go_cut [18] (fun v18 wc => ∃ (kq : Nat) (x18_3 : Bool), v18 = .bool x18_3 ∧ Aside0 (gossamerref24_Match.j0 kq a0 a1 t122 x18_3 = some (r1, r2)) ∧ Aside0 (kq ≤ k) ∧ Drawn0 w wc)
  case first =>
    have H := HC4.out
    clear HC4
    by_cases c5 : t122 < 0
    · rw [if_pos c5] at H
      have c5b0 : decide (t122 < 0) = true := decide_eq_true c5
      clear c5
      (first | rw [c5b0] | (simp only [i64_w, i32_w]; rw [c5b0]) | skip)
      have H' := Aside0.mk H
      clear H
      go_wp2
      repeat (go_quiet (fail); try go_wp2)
      go_meet
      case rel => exact ⟨_, (true), (by first | rfl | (simp; done) | (simp [*]; done)), H', ⟨by first | omega | exact Nat.le_refl _⟩, by repeat (first | exact Drawn0.refl _ | apply Drawn0.step)⟩
    · rw [if_neg c5] at H
      have c5b0 : decide (t122 < 0) = false := decide_eq_false c5
      clear c5
      (first | rw [c5b0] | (simp only [i64_w, i32_w]; rw [c5b0]) | skip)
      have H' := Aside0.mk H
      clear H
      go_wp2
      repeat (go_quiet (fail); try go_wp2)
      go_meet
      case rel => exact ⟨_, (decide ((a1.size : Int) < (a0.size : Int))), (by first | rfl | (simp; done) | (simp [*]; done)), H', ⟨by first | omega | exact Nat.le_refl _⟩, by repeat (first | exact Drawn0.refl _ | apply Drawn0.step)⟩
  case rest =>
    clear HC4
    try clear c1
    try clear p2
    try clear c5
    try clear c5b0
    obtain ⟨kq, x18_3, rfl, HA, HJ3, ⟨mc3, rfl⟩⟩ := hcut
    cases kq with
    | zero => exact absurd HA.out (by simp [gossamerref24_Match.j0])
    | succ kj3 =>
      have H := HA.out
      clear HA
      simp only [gossamerref24_Match.j0] at H
      by_cases c6 : x18_3 = true
      · subst c6
        have H1 : (some ((⟨#[]⟩ : ByteArray), false)) = some (r1, r2) := by rw [if_pos rfl] at H; exact H
        clear H
        have H := H1
        clear H1
        simp only [Option.some.injEq, Prod.mk.injEq] at H
        obtain ⟨rfl, rfl⟩ := H
        go_wp2
        repeat (go_quiet (fail); try go_wp2)
        go_ret2
        exact ⟨by first | rfl | (simp; done) | (simp [*]; done), by repeat (first | exact Drawn0.refl _ | apply Drawn0.step)⟩
      · replace c6 := Bool.eq_false_iff.mpr c6
        subst c6
        have H1 : (if 0 ≤ (wrap64 (t122 + 1)) then (if (wrap64 (t122 + 1)) ≤ (a0.size : Int) then (if 0 ≤ t122 then (if t122 ≤ (a1.size : Int) then (if t122 ≤ (a0.size : Int) then (if (a1.extract 0 (t122 : Int).toNat).toList = (a0.extract 0 (t122 : Int).toNat).toList then (if 0 ≤ (wrap64 ((a1.size : Int) - ((a0.extract ((wrap64 (t122 + 1)) : Int).toNat a0.size).size : Int))) then (if (wrap64 ((a1.size : Int) - ((a0.extract ((wrap64 (t122 + 1)) : Int).toNat a0.size).size : Int))) ≤ (a1.size : Int) then (if (a1.extract ((wrap64 ((a1.size : Int) - ((a0.extract ((wrap64 (t122 + 1)) : Int).toNat a0.size).size : Int))) : Int).toNat a1.size).toList = (a0.extract ((wrap64 (t122 + 1)) : Int).toNat a0.size).toList then (if t122 ≤ (wrap64 ((a1.size : Int) - ((a0.extract ((wrap64 (t122 + 1)) : Int).toNat a0.size).size : Int))) then (some (a1.extract (t122 : Int).toNat ((wrap64 ((a1.size : Int) - ((a0.extract ((wrap64 (t122 + 1)) : Int).toNat a0.size).size : Int))) : Int).toNat, true)) else (none)) else (some ((⟨#[]⟩ : ByteArray), false))) else (none)) else (none)) else (some ((⟨#[]⟩ : ByteArray), false))) else (none)) else (none)) else (none)) else (none)) else (none)) = some (r1, r2) := by rw [if_neg (show ¬ (false = true) by decide)] at H; exact H
        clear H
        have H := H1
        clear H1
        obtain ⟨ji7, hji7⟩ : ∃ j_ : Int, (wrap64 (t122 + 1)) = j_ := ⟨_, rfl⟩
        replace H : (if 0 ≤ (ji7) then (if (ji7) ≤ (a0.size : Int) then (if 0 ≤ t122 then (if t122 ≤ (a1.size : Int) then (if t122 ≤ (a0.size : Int) then (if (a1.extract 0 (t122 : Int).toNat).toList = (a0.extract 0 (t122 : Int).toNat).toList then (if 0 ≤ (wrap64 ((a1.size : Int) - ((a0.extract ((ji7) : Int).toNat a0.size).size : Int))) then (if (wrap64 ((a1.size : Int) - ((a0.extract ((ji7) : Int).toNat a0.size).size : Int))) ≤ (a1.size : Int) then (if (a1.extract ((wrap64 ((a1.size : Int) - ((a0.extract ((ji7) : Int).toNat a0.size).size : Int))) : Int).toNat a1.size).toList = (a0.extract ((ji7) : Int).toNat a0.size).toList then (if t122 ≤ (wrap64 ((a1.size : Int) - ((a0.extract ((ji7) : Int).toNat a0.size).size : Int))) then (some (a1.extract (t122 : Int).toNat ((wrap64 ((a1.size : Int) - ((a0.extract ((ji7) : Int).toNat a0.size).size : Int))) : Int).toNat, true)) else (none)) else (some ((⟨#[]⟩ : ByteArray), false))) else (none)) else (none)) else (some ((⟨#[]⟩ : ByteArray), false))) else (none)) else (none)) else (none)) else (none)) else (none)) = some (r1, r2) := by first | (rw [hji7] at H; exact H) | (simp only [hji7] at H ⊢; exact H)
        have hji7w : (IntKind.i64.wrap (t122 + 1)) = ji7 := (i64_w _).trans hji7
        by_cases c8 : 0 ≤ (ji7)
        · rw [if_pos c8] at H
          have c8b0 := eq_true c8
          have c8b1 : decide (0 ≤ (ji7)) = true := decide_eq_true c8
          clear c8
          by_cases c9 : (ji7) ≤ (a0.size : Int)
          · rw [if_pos c9] at H
            have c9b0 := eq_true c9
            have c9b1 : decide ((ji7) ≤ (a0.size : Int)) = true := decide_eq_true c9
            clear c9
            by_cases c10 : 0 ≤ t122
            · rw [if_pos c10] at H
              have c10b0 := eq_true c10
              have c10b1 : decide (0 ≤ t122) = true := decide_eq_true c10
              clear c10
              by_cases c11 : t122 ≤ (a1.size : Int)
              · rw [if_pos c11] at H
                have c11b0 := eq_true c11
                have c11b1 : decide (t122 ≤ (a1.size : Int)) = true := decide_eq_true c11
                clear c11
                have c12b0 := eq_true (of_decide_eq_true (by first | (with_reducible assumption) | assumption) : 0 ≤ t122)
                by_cases c13 : t122 ≤ (a0.size : Int)
                · rw [if_pos c13] at H
                  have c13b0 := eq_true c13
                  have c13b1 : decide (t122 ≤ (a0.size : Int)) = true := decide_eq_true c13
                  clear c13
                  by_cases c14 : (a1.extract 0 (t122 : Int).toNat).toList = (a0.extract 0 (t122 : Int).toNat).toList
                  · rw [if_pos c14] at H
                    have c14b0 : ((a1.extract 0 (t122 : Int).toNat).toList == (a0.extract 0 (t122 : Int).toNat).toList) = true := beq_iff_eq.mpr c14
                    have c14b1 : ((a1.extract 0 (t122 : Int).toNat).toList != (a0.extract 0 (t122 : Int).toNat).toList) = false := bne_eq_false_iff_eq.mpr c14
                    clear c14
                    obtain ⟨ji15, hji15⟩ : ∃ j_ : Int, (wrap64 ((a1.size : Int) - ((a0.extract ((ji7) : Int).toNat a0.size).size : Int))) = j_ := ⟨_, rfl⟩
                    replace H : (if 0 ≤ (ji15) then (if (ji15) ≤ (a1.size : Int) then (if (a1.extract ((ji15) : Int).toNat a1.size).toList = (a0.extract ((ji7) : Int).toNat a0.size).toList then (if t122 ≤ (ji15) then (some (a1.extract (t122 : Int).toNat ((ji15) : Int).toNat, true)) else (none)) else (some ((⟨#[]⟩ : ByteArray), false))) else (none)) else (none)) = some (r1, r2) := by first | (rw [hji15] at H; exact H) | (simp only [hji15] at H ⊢; exact H)
                    have hji15w : (IntKind.i64.wrap ((a1.size : Int) - ((a0.extract ((ji7) : Int).toNat a0.size).size : Int))) = ji15 := (i64_w _).trans hji15
                    have hji15v := hji15w
                    (try simp only [ByteArray.size_extract, Nat.min_self] at hji15v)
                    by_cases c16 : 0 ≤ (ji15)
                    · rw [if_pos c16] at H
                      have c16b0 := eq_true c16
                      have c16b1 : decide (0 ≤ (ji15)) = true := decide_eq_true c16
                      clear c16
                      by_cases c17 : (ji15) ≤ (a1.size : Int)
                      · rw [if_pos c17] at H
                        have c17b0 := eq_true c17
                        have c17b1 : decide ((ji15) ≤ (a1.size : Int)) = true := decide_eq_true c17
                        clear c17
                        by_cases c18 : (a1.extract ((ji15) : Int).toNat a1.size).toList = (a0.extract ((ji7) : Int).toNat a0.size).toList
                        · rw [if_pos c18] at H
                          have c18b0 : ((a1.extract ((ji15) : Int).toNat a1.size).toList == (a0.extract ((ji7) : Int).toNat a0.size).toList) = true := beq_iff_eq.mpr c18
                          have c18b1 : ((a1.extract ((ji15) : Int).toNat a1.size).toList != (a0.extract ((ji7) : Int).toNat a0.size).toList) = false := bne_eq_false_iff_eq.mpr c18
                          clear c18
                          have c19b0 := eq_true (of_decide_eq_true (by first | (with_reducible assumption) | assumption) : 0 ≤ t122)
                          by_cases c20 : t122 ≤ (ji15)
                          · rw [if_pos c20] at H
                            have c20b0 := eq_true c20
                            have c20b1 : decide (t122 ≤ (ji15)) = true := decide_eq_true c20
                            clear c20
                            have c21b0 := eq_true (of_decide_eq_true (by first | (with_reducible assumption) | assumption) : (ji15) ≤ (a1.size : Int))
                            simp only [Option.some.injEq, Prod.mk.injEq] at H
                            obtain ⟨rfl, rfl⟩ := H
                            go_wp2
                            repeat (go_quiet (fail); try go_wp2)
                            go_ret2
                            exact ⟨by first | rfl | (simp; done) | (simp only [← hji7, ← hji15] <;> (first | rfl | simp)) | (simp [*]; done), by repeat (first | exact Drawn0.refl _ | apply Drawn0.step)⟩
                          · rw [if_neg c20] at H
                            exact absurd H (by simp)
                        · rw [if_neg c18] at H
                          have c18b0 : ((a1.extract ((ji15) : Int).toNat a1.size).toList == (a0.extract ((ji7) : Int).toNat a0.size).toList) = false := beq_eq_false_iff_ne.mpr c18
                          have c18b1 : ((a1.extract ((ji15) : Int).toNat a1.size).toList != (a0.extract ((ji7) : Int).toNat a0.size).toList) = true := bne_iff_ne.mpr c18
                          simp only [Option.some.injEq, Prod.mk.injEq] at H
                          obtain ⟨rfl, rfl⟩ := H
                          go_wp2
                          repeat (go_quiet (fail); try go_wp2)
                          go_ret2
                          exact ⟨by first | rfl | (simp; done) | (simp only [← hji7, ← hji15] <;> (first | rfl | simp)) | (simp [*]; done), by repeat (first | exact Drawn0.refl _ | apply Drawn0.step)⟩
                      · rw [if_neg c17] at H
                        exact absurd H (by simp)
                    · rw [if_neg c16] at H
                      exact absurd H (by simp)
                  · rw [if_neg c14] at H
                    have c14b0 : ((a1.extract 0 (t122 : Int).toNat).toList == (a0.extract 0 (t122 : Int).toNat).toList) = false := beq_eq_false_iff_ne.mpr c14
                    have c14b1 : ((a1.extract 0 (t122 : Int).toNat).toList != (a0.extract 0 (t122 : Int).toNat).toList) = true := bne_iff_ne.mpr c14
                    simp only [Option.some.injEq, Prod.mk.injEq] at H
                    obtain ⟨rfl, rfl⟩ := H
                    go_wp2
                    repeat (go_quiet (fail); try go_wp2)
                    go_ret2
                    exact ⟨by first | rfl | (simp; done) | (simp only [← hji7] <;> (first | rfl | simp)) | (simp [*]; done), by repeat (first | exact Drawn0.refl _ | apply Drawn0.step)⟩
                · rw [if_neg c13] at H
                  exact absurd H (by simp)
              · rw [if_neg c11] at H
                exact absurd H (by simp)
            · rw [if_neg c10] at H
              exact absurd H (by simp)
          · rw [if_neg c9] at H
            exact absurd H (by simp)
        · rw [if_neg c8] at H
          exact absurd H (by simp)

/-! ### gossamerref24_Compare: function 15 -/
def gossamerref24_Compare.j0 : Nat → Int → Int → Int → Int → Bool → Option (Int)
  | 0, _, _, _, _, _ => none
  | k + 1, x5, x6, x7, x8, x19 => if x19 = true then (some (-1)) else (if x5 = x7 then (if x6 = x8 then (some 0) else (some 1)) else (some 1))
def gossamerref24_Compare.f (k : Nat) (a0 : ByteArray) (a1 : ByteArray) : Option (Int) := (gossamerref24_Weight.f k a0).bind fun bt123 => ((gossamerref24_Weight.f k a1).bind fun bt125 => (if bt123.1 > bt125.1 then (gossamerref24_Compare.j0 k bt123.1 bt123.2 bt125.1 bt125.2 true) else (if bt123.1 = bt125.1 then (gossamerref24_Compare.j0 k bt123.1 bt123.2 bt125.1 bt125.2 (decide (bt123.2 > bt125.2))) else (gossamerref24_Compare.j0 k bt123.1 bt123.2 bt125.1 bt125.2 false))))
theorem gossamerref24_Compare.mono_l : ∀ k, (∀ y0 y1 y2 y3 y4, LeO (gossamerref24_Compare.j0 k y0 y1 y2 y3 y4) (gossamerref24_Compare.j0 (k + 1) y0 y1 y2 y3 y4))
  | 0 => fun _ _ _ _ _ r h => by simp [gossamerref24_Compare.j0] at h
  | k + 1 => by
    have ih0 := gossamerref24_Compare.mono_l k
    · intro y0 y1 y2 y3 y4
      unfold gossamerref24_Compare.j0
      repeat' first
      | (with_reducible exact ih0 _ _ _ _ _)
      | (with_reducible exact gossamerref24_Weight.mono _ _)
      | (with_reducible exact LeO.refl _)
      | (with_reducible exact LeO.none _)
      | (with_reducible refine LeO.ite ?_ ?_)
      | (with_reducible refine LeO.bind ?_ (fun _ => ?_))
      | exact ih0 _ _ _ _ _
      | exact gossamerref24_Weight.mono _ _
      | exact LeO.none _
      | refine LeO.ite ?_ ?_
      | refine LeO.bind ?_ (fun _ => ?_)
theorem gossamerref24_Compare.mono : ∀ a0 a1 k, LeO (gossamerref24_Compare.f k a0 a1) (gossamerref24_Compare.f (k + 1) a0 a1) := by
  intro a0 a1 k
  have ih0 := gossamerref24_Compare.mono_l k
  unfold gossamerref24_Compare.f
  repeat' first
      | (with_reducible exact ih0 _ _ _ _ _)
      | (with_reducible exact gossamerref24_Weight.mono _ _)
      | (with_reducible exact LeO.refl _)
      | (with_reducible exact LeO.none _)
      | (with_reducible refine LeO.ite ?_ ?_)
      | (with_reducible refine LeO.bind ?_ (fun _ => ?_))
      | exact ih0 _ _ _ _ _
      | exact gossamerref24_Weight.mono _ _
      | exact LeO.none _
      | refine LeO.ite ?_ ?_
      | refine LeO.bind ?_ (fun _ => ?_)
set_option maxHeartbeats 8000000 in
set_option maxRecDepth 100000 in
theorem gossamerref24_Compare.calls (k : Nat) (a0 : ByteArray) (a1 : ByteArray) (r : Int) (w : World) (h : gossamerref24_Compare.f k a0 a1 = some r) :
    Calls Try.prog 15 #[.string a0, .string a1] w fun e w' => e = .returned (.int .i64 r) ∧ Drawn0 w w' := by
  have H : ((gossamerref24_Weight.f k a0).bind fun bt123 => ((gossamerref24_Weight.f k a1).bind fun bt125 => (if bt123.1 > bt125.1 then (gossamerref24_Compare.j0 k bt123.1 bt123.2 bt125.1 bt125.2 true) else (if bt123.1 = bt125.1 then (gossamerref24_Compare.j0 k bt123.1 bt123.2 bt125.1 bt125.2 (decide (bt123.2 > bt125.2))) else (gossamerref24_Compare.j0 k bt123.1 bt123.2 bt125.1 bt125.2 false))))) = some r := h
  clear h
  replace H := Option.bind_eq_some_iff.mp H
  obtain ⟨⟨t123, t124⟩, A30, H⟩ := H
  replace H : ((gossamerref24_Weight.f k a1).bind fun bt125 => (if t123 > bt125.1 then (gossamerref24_Compare.j0 k t123 t124 bt125.1 bt125.2 true) else (if t123 = bt125.1 then (gossamerref24_Compare.j0 k t123 t124 bt125.1 bt125.2 (decide (t124 > bt125.2))) else (gossamerref24_Compare.j0 k t123 t124 bt125.1 bt125.2 false)))) = some r := H
  have A3 := Aside0.mk A30
  clear A30
  replace H := Option.bind_eq_some_iff.mp H
  obtain ⟨⟨t125, t126⟩, A40, H⟩ := H
  replace H : (if t123 > t125 then (gossamerref24_Compare.j0 k t123 t124 t125 t126 true) else (if t123 = t125 then (gossamerref24_Compare.j0 k t123 t124 t125 t126 (decide (t124 > t126))) else (gossamerref24_Compare.j0 k t123 t124 t125 t126 false))) = some r := H
  have A4 := Aside0.mk A40
  clear A40
  have HC5 := Aside0.mk H
  clear H
  go_enter Try.func15, Try.ntmps15
  go_upto_region 3 with (first | ((with_reducible refine gate_callee (f := 10) rfl ?_); refine goesL_ (some 11) rfl rfl Try.func10 (by kernel_rfl) rfl #[.string a0] rfl (by (try simp only [List.map_toArray, List.map_cons, List.map_nil]); first | done | rfl | (simp only [List.length_drop, List.length_take]; rfl)) ?_; (with_reducible refine (gossamerref24_Weight.calls k a0 t123 t124 _ A3.out).mono ?_); rintro e w' ⟨rfl, ⟨nd, rfl⟩⟩; refine ⟨_, rfl, ?_⟩) | ((with_reducible refine gate_callee (f := 10) rfl ?_); refine goesL_ (some 16) rfl rfl Try.func10 (by kernel_rfl) rfl #[.string a1] rfl (by (try simp only [List.map_toArray, List.map_cons, List.map_nil]); first | done | rfl | (simp only [List.length_drop, List.length_take]; rfl)) ?_; (with_reducible refine (gossamerref24_Weight.calls k a1 t125 t126 _ A4.out).mono ?_); rintro e w' ⟨rfl, ⟨nd, rfl⟩⟩; refine ⟨_, rfl, ?_⟩))
  (try simp only [Act.put, List.setIfInBounds_toArray, List.set_cons_zero, List.set_cons_succ])
  go_cut [19] (fun v19 wc => ∃ (kq : Nat) (x19_4 : Bool), v19 = .bool x19_4 ∧ Aside0 (gossamerref24_Compare.j0 kq t123 t124 t125 t126 x19_4 = some r) ∧ Aside0 (kq ≤ k) ∧ Drawn0 w wc)
  case first =>
    have H := HC5.out
    clear HC5
    by_cases c6 : t123 > t125
    · rw [if_pos c6] at H
      have c6b0 : decide (t125 < t123) = true := decide_eq_true c6
      clear c6
      (first | rw [c6b0] | (simp only [i64_w, i32_w]; rw [c6b0]) | skip)
      have H' := Aside0.mk H
      clear H
      go_wp2
      go_meet
      case rel => exact ⟨_, (true), (by first | rfl | (simp; done) | (simp [*]; done)), H', ⟨by first | omega | exact Nat.le_refl _⟩, by repeat (first | exact Drawn0.refl _ | apply Drawn0.step)⟩
    · rw [if_neg c6] at H
      have c6b0 : decide (t125 < t123) = false := decide_eq_false c6
      clear c6
      (first | rw [c6b0] | (simp only [i64_w, i32_w]; rw [c6b0]) | skip)
      by_cases c7 : t123 = t125
      · rw [if_pos c7] at H
        have c7b0 : (t123 == t125) = true := beq_iff_eq.mpr c7
        have c7b1 : (t123 != t125) = false := bne_eq_false_iff_eq.mpr c7
        clear c7
        have H' := Aside0.mk H
        clear H
        go_wp2
        go_meet
        case rel => exact ⟨_, (decide (t124 > t126)), (by first | rfl | (simp; done) | (simp [*]; done)), H', ⟨by first | omega | exact Nat.le_refl _⟩, by repeat (first | exact Drawn0.refl _ | apply Drawn0.step)⟩
      · rw [if_neg c7] at H
        have c7b0 : (t123 == t125) = false := beq_eq_false_iff_ne.mpr c7
        have c7b1 : (t123 != t125) = true := bne_iff_ne.mpr c7
        have H' := Aside0.mk H
        clear H
        go_wp2
        go_meet
        case rel => exact ⟨_, (false), (by first | rfl | (simp; done) | (simp [*]; done)), H', ⟨by first | omega | exact Nat.le_refl _⟩, by repeat (first | exact Drawn0.refl _ | apply Drawn0.step)⟩
  case rest =>
    clear HC5
    try clear c1
    try clear p2
    try clear c6
    try clear c6b0
    try clear c7
    try clear c7b0
    try clear c7b1
    obtain ⟨kq, x19_4, rfl, HA, HJ4, ⟨mc4, rfl⟩⟩ := hcut
    cases kq with
    | zero => exact absurd HA.out (by simp [gossamerref24_Compare.j0])
    | succ kj4 =>
      have H := HA.out
      clear HA
      simp only [gossamerref24_Compare.j0] at H
      by_cases c8 : x19_4 = true
      · subst c8
        have H1 : (some (-1)) = some r := by rw [if_pos rfl] at H; exact H
        clear H
        have H := H1
        clear H1
        obtain rfl := Option.some.inj H
        go_wp2
        go_ret
        exact ⟨by first | rfl | (simp; done) | (simp [*]; done), by repeat (first | exact Drawn0.refl _ | apply Drawn0.step)⟩
      · replace c8 := Bool.eq_false_iff.mpr c8
        subst c8
        have H1 : (if t123 = t125 then (if t124 = t126 then (some 0) else (some 1)) else (some 1)) = some r := by rw [if_neg (show ¬ (false = true) by decide)] at H; exact H
        clear H
        have H := H1
        clear H1
        by_cases c9 : t123 = t125
        · rw [if_pos c9] at H
          have c9b0 : (t123 == t125) = true := beq_iff_eq.mpr c9
          have c9b1 : (t123 != t125) = false := bne_eq_false_iff_eq.mpr c9
          clear c9
          by_cases c10 : t124 = t126
          · rw [if_pos c10] at H
            have c10b0 : (t124 == t126) = true := beq_iff_eq.mpr c10
            have c10b1 : (t124 != t126) = false := bne_eq_false_iff_eq.mpr c10
            clear c10
            obtain rfl := Option.some.inj H
            go_wp2
            go_ret
            exact ⟨by first | rfl | (simp; done) | (simp [*]; done), by repeat (first | exact Drawn0.refl _ | apply Drawn0.step)⟩
          · rw [if_neg c10] at H
            have c10b0 : (t124 == t126) = false := beq_eq_false_iff_ne.mpr c10
            have c10b1 : (t124 != t126) = true := bne_iff_ne.mpr c10
            obtain rfl := Option.some.inj H
            go_wp2
            go_ret
            exact ⟨by first | rfl | (simp; done) | (simp [*]; done), by repeat (first | exact Drawn0.refl _ | apply Drawn0.step)⟩
        · rw [if_neg c9] at H
          have c9b0 : (t123 == t125) = false := beq_eq_false_iff_ne.mpr c9
          have c9b1 : (t123 != t125) = true := bne_iff_ne.mpr c9
          obtain rfl := Option.some.inj H
          go_wp2
          go_ret
          exact ⟨by first | rfl | (simp; done) | (simp [*]; done), by repeat (first | exact Drawn0.refl _ | apply Drawn0.step)⟩

end Go.Proofs.Ytngkeifkeffkdaa.PG
