-- WRITTEN BY A PROGRAM OF THIS SESSION (wip/tools/xprint.py, over the kit's print.py).
import Derived.Test.YthnlgnnodgeneaaDoorPFx0
namespace Go.Proofs.YthnlgnnodgeneaaDoor.PF
open Go.RowKit Go.Proofs.YthnlgnnodgeneaaDoorW.PrintWords Go.Proofs.YthnlgnnodgeneaaDoorW.PrintLast Go.Proofs.YthnlgnnodgeneaaDoorW.PrintMore Go.Proofs.YthnlgnnodgeneaaDoorE
attribute [local go_sem] max2_int min2_int max_two min_two max_three min_three max_four min_four   -- for this text's walks alone
set_option linter.unusedVariables false
set_option linter.unusedSimpArgs false

/-! ### strings_Split: function 27 (given) -/
-- CALLS
def strings_Split.f (a0 a1 : ByteArray) : Option (List ByteArray) := if a0.size < 4294967281 then (if 1 ≤ a1.size then some (Go.Lib.splitB a1 0 (Go.Lib.countB a0 a1) a0) else none) else none
theorem strings_Split.calls (a0 a1 : ByteArray) (r : List ByteArray) (w : World) (hE : EnvOK w) (h : strings_Split.f a0 a1 = some r) :
    Calls Tryd.prog 27 #[.string a0, .string a1] w fun e w' => ∃ v0_ : Value, e = .returned (v0_) ∧ Kd.R Kd.string 9 w' w.heap.size (fun _ => True) v0_ r ∧ Below w.heap.size w w' := by
  unfold strings_Split.f at h
  by_cases h1 : a0.size < 4294967281
  · rw [if_pos h1] at h
    by_cases h2 : 1 ≤ a1.size
    · rw [if_pos h2] at h
      obtain rfl := Option.some.inj h
      obtain ⟨m, hm⟩ := hE.maxLen
      refine (Tryd.strings_Split a0 a1 m w h1 hm h2).mono ?_
      rintro e w' ⟨rfl, rfl⟩
      have hlen : (Go.Lib.splitB a1 0 (Go.Lib.countB a0 a1) a0).length = Go.Lib.countB a0 a1 + 1 := YthnlgnnodgeneaaDoorL.splitB_length a0 a1 h2
      refine ⟨_, rfl, ?_, below_alloc (Below.refl _ _) _⟩
      rw [← hlen]
      exact YthnlgnnodgeneaaDoorL.lit_strings _ w _ (by rw [hlen]; have := YthnlgnnodgeneaaDoorL.countB_le a0 a1 h2; omega)
    · rw [if_neg h2] at h; cases h
  · rw [if_neg h1] at h; cases h



/-! ### file_apart: function 13 -/
def file_apart.f (a0 : ByteArray) : Option (List ByteArray) := (strings_Split.f a0 (⟨#[47]⟩ : ByteArray)).bind fun t101 => (if 1 ≤ (t101.length : Int) then (some (t101.drop (1 : Int).toNat)) else (none))
set_option maxHeartbeats 8000000 in
set_option maxRecDepth 100000 in
theorem file_apart.calls (a0 : ByteArray) (r : List ByteArray) (w : World) (hE : EnvOK w) (h : file_apart.f a0 = some r) :
    Calls Tryd.prog 13 #[.string a0] w fun e w' => ∃ v0_ : Value, e = .returned (v0_) ∧ Kd.Q Kd.string 9 w' w.heap.size (fun _ => True) v0_ r ∧ Below w.heap.size w w' := by
  have HE := Aside0.mk hE
  clear hE
  have HB := Aside0.mk (Below.refl w.heap.size w)
  have H : ((strings_Split.f a0 (⟨#[47]⟩ : ByteArray)).bind fun t101 => (if 1 ≤ (t101.length : Int) then (some (t101.drop (1 : Int).toNat)) else (none))) = some r := h
  clear h
  replace H := Option.bind_eq_some_iff.mp H
  obtain ⟨t101, A20, H⟩ := H
  replace H : (if 1 ≤ (t101.length : Int) then (some (t101.drop (1 : Int).toNat)) else (none)) = some r := H
  have A2 := Aside0.mk A20
  clear A20
  by_cases c3 : 1 ≤ (t101.length : Int)
  · rw [if_pos c3] at H
    have c3b0 := eq_true c3
    have c3b1 : decide (1 ≤ (t101.length : Int)) = true := decide_eq_true c3
    clear c3
    obtain ⟨y104, hy104⟩ : ∃ y_ : List ByteArray, y_ = (t101.drop (1 : Int).toNat) := ⟨_, rfl⟩
    replace H : (some y104) = some r := by first | (rw [hy104]; with_reducible exact H) | (have H2_ := (Option.bind_some _ _).symm.trans H; rw [hy104]; with_reducible exact H2_) | (have H2_ := (Option.bind_some _ _).symm.trans H; with_reducible exact H2_) | with_reducible exact H | (rw [hy104]; exact H) | exact H
    have Ny104 := Aside0.mk hy104
    clear hy104
    obtain rfl := Option.some.inj H
    go_enter Tryd.func13, Tryd.ntmps13
    go_wp2_with (first | ((with_reducible refine gate_callee (f := 27) rfl ?_); refine goesL_ (some 4) rfl rfl Tryd.func27 (by kernel_rfl) rfl #[.string a0, .string (⟨#[47]⟩ : ByteArray)] rfl (by (try simp only [List.map_toArray, List.map_cons, List.map_nil]); first | done | rfl | (simp only [List.length_drop, List.length_take]; rfl)) ?_; (with_reducible refine (strings_Split.calls a0 (⟨#[47]⟩ : ByteArray) t101 _ ?side1 A2.out).mono ?_); (case side1 => exact EnvOK.step HE.out (by repeat (first | (with_reducible first | exact HB.out | apply below_alloc | apply pw_below_drewN | apply below_drew1) | exact HB.out))); rintro e w4 ⟨v102, rfl, ho0, hb⟩; refine ⟨_, rfl, ?_⟩; have n0_ := Aside0.mk (Kd.R_lower ho0 (below_size (by repeat (first | (with_reducible first | exact HB.out | apply below_alloc | apply pw_below_drewN | apply below_drew1) | exact HB.out)))); have n1_ := Aside0.mk (below_step (by repeat (first | (with_reducible first | exact HB.out | apply below_alloc | apply pw_below_drewN | apply below_drew1) | exact HB.out)) hb); clear HB; have HO103 := n0_; have HB := n1_; clear n0_ n1_; (try clear hb); (try clear hb2); (try clear hk); (try clear hi); (try clear ho0); obtain ⟨Ao5, co5, eo5⟩ := Kd.R_slice HO103.out; subst eo5; have q6 : (1 : Int) ≤ ((t101.length : Int) : Int) := of_decide_eq_true (by first | (with_reducible assumption) | assumption); obtain ⟨i06, hi06, _, hsz6, _⟩ := info_parts info9; have hcut6 := cut_from (P := Tryd.prog) 28 9 .i64 Tryd.underlying28 hi06 1 hsz6 Ao5 t101.length co5 1 (by omega) q6; have hr6 := Kd.Q_drop (k := (1 : Int).toNat) (Kd.Q_of_R HO103.out) (by omega); obtain ⟨A6, hA6⟩ : ∃ A1, A1 = (if co5 = (1 : Int).toNat then Ao5 else (Ao5 : Option Addr).map (·.add ((1 : Int).toNat * 1))) := ⟨_, rfl⟩; obtain ⟨c6, hc6⟩ : ∃ c1, c1 = co5 - (1 : Int).toNat := ⟨_, rfl⟩; have hy6 : y104.length = t101.length - (1 : Int).toNat := (by rw [Ny104.out, List.length_drop]); rw [← Ny104.out] at hr6; rw [← hy6, ← hA6, ← hc6] at hcut6; replace hr6 : Kd.Q Kd.string 9 w4 w.heap.size (fun _ => True) (.slice A6 y104.length c6) y104 := (by rw [hA6, hc6, hy6]; exact hr6); have HE6 : Aside0 ((Value.slice A6 y104.length c6).ownBlock = (.slice Ao5 t101.length co5 : Value).ownBlock) := ⟨by rw [hA6]; split <;> (cases (Ao5 : Option Addr) <;> rfl)⟩; clear hy6 hi06 hsz6 HO103 hA6 hc6; have HO106 := Aside0.mk hr6; clear hr6; replace q6 := eq_true q6))
    go_ret
    exact ⟨_, by first | rfl | (simp [errW_none, errW_some] <;> rfl) | (simp [*, errW_none, errW_some] <;> rfl), by (with_reducible repeat (first | apply Kd.Q_alloc | apply Kd.Q_drewN | apply Kd.Q_drew)); exact HO106.out, by repeat (first | (with_reducible first | exact HB.out | apply below_alloc | apply pw_below_drewN | apply below_drew1) | exact HB.out)⟩
  · rw [if_neg c3] at H
    exact absurd H (by simp)

/-! ### stringslite_HasPrefix: function 32 -/
def stringslite_HasPrefix.f (a0 : ByteArray) (a1 : ByteArray) : Option (Bool) := if (a0.size : Int) ≥ (a1.size : Int) then (if 0 ≤ (a1.size : Int) then (if (a1.size : Int) ≤ (a0.size : Int) then (some ((a0.extract 0 ((a1.size : Int) : Int).toNat).toList == a1.toList)) else (none)) else (none)) else (some false)
set_option maxHeartbeats 8000000 in
set_option maxRecDepth 100000 in
theorem stringslite_HasPrefix.calls (a0 : ByteArray) (a1 : ByteArray) (r : Bool) (w : World) (h : stringslite_HasPrefix.f a0 a1 = some r) :
    Calls Tryd.prog 32 #[.string a0, .string a1] w fun e w' => e = .returned (.bool r) ∧ Drawn0 w w' := by
  have H : (if (a0.size : Int) ≥ (a1.size : Int) then (if 0 ≤ (a1.size : Int) then (if (a1.size : Int) ≤ (a0.size : Int) then (some ((a0.extract 0 ((a1.size : Int) : Int).toNat).toList == a1.toList)) else (none)) else (none)) else (some false)) = some r := h
  clear h
  by_cases c3 : (a0.size : Int) ≥ (a1.size : Int)
  · rw [if_pos c3] at H
    have c3b0 : decide ((a1.size : Int) ≤ (a0.size : Int)) = true := decide_eq_true c3
    have c3b1 : decide (a1.size ≤ a0.size) = true := decide_eq_true (Int.ofNat_le.mp c3)
    clear c3
    by_cases c4 : 0 ≤ (a1.size : Int)
    · rw [if_pos c4] at H
      have c4b0 := eq_true c4
      have c4b1 : decide (0 ≤ (a1.size : Int)) = true := decide_eq_true c4
      clear c4
      by_cases c5 : (a1.size : Int) ≤ (a0.size : Int)
      · rw [if_pos c5] at H
        have c5b0 := eq_true c5
        have c5b1 : decide ((a1.size : Int) ≤ (a0.size : Int)) = true := decide_eq_true c5
        clear c5
        obtain rfl := Option.some.inj H
        go_enter Tryd.func32, Tryd.ntmps32
        go_wp2
        go_ret
        exact ⟨by first | rfl | (simp; done) | (simp [*]; done), by repeat (first | exact Drawn0.refl _ | apply Drawn0.step)⟩
      · rw [if_neg c5] at H
        exact absurd H (by simp)
    · rw [if_neg c4] at H
      exact absurd H (by simp)
  · rw [if_neg c3] at H
    have c3b0 : decide ((a1.size : Int) ≤ (a0.size : Int)) = false := decide_eq_false c3
    have c3b1 : decide (a1.size ≤ a0.size) = false := decide_eq_false (fun h => c3 (Int.ofNat_le.mpr h))
    clear c3
    obtain rfl := Option.some.inj H
    go_enter Tryd.func32, Tryd.ntmps32
    go_wp2
    go_ret
    exact ⟨by first | rfl | (simp; done) | (simp [*]; done), by repeat (first | exact Drawn0.refl _ | apply Drawn0.step)⟩

/-! ### strings_HasPrefix: function 19 -/
def strings_HasPrefix.f (a0 : ByteArray) (a1 : ByteArray) : Option (Bool) := (stringslite_HasPrefix.f a0 a1).bind fun t107 => (some t107)
set_option maxHeartbeats 8000000 in
set_option maxRecDepth 100000 in
theorem strings_HasPrefix.calls (a0 : ByteArray) (a1 : ByteArray) (r : Bool) (w : World) (h : strings_HasPrefix.f a0 a1 = some r) :
    Calls Tryd.prog 19 #[.string a0, .string a1] w fun e w' => e = .returned (.bool r) ∧ Drawn0 w w' := by
  have H : ((stringslite_HasPrefix.f a0 a1).bind fun t107 => (some t107)) = some r := h
  clear h
  replace H := Option.bind_eq_some_iff.mp H
  obtain ⟨t107, A30, H⟩ := H
  replace H : (some t107) = some r := H
  have A3 := Aside0.mk A30
  clear A30
  obtain rfl := Option.some.inj H
  go_enter Tryd.func19, Tryd.ntmps19
  go_wp2_with (first | ((with_reducible refine gate_callee (f := 32) rfl ?_); refine goesL_ (some 7) rfl rfl Tryd.func32 (by kernel_rfl) rfl #[.string a0, .string a1] rfl (by (try simp only [List.map_toArray, List.map_cons, List.map_nil]); first | done | rfl | (simp only [List.length_drop, List.length_take]; rfl)) ?_; (with_reducible refine (stringslite_HasPrefix.calls a0 a1 t107 _ A3.out).mono ?_); rintro e w' ⟨rfl, ⟨nd, rfl⟩⟩; refine ⟨_, rfl, ?_⟩))
  go_ret
  exact ⟨by first | rfl | (simp; done) | (simp [*]; done), by repeat (first | exact Drawn0.refl _ | apply Drawn0.step)⟩

/-! ### file_Clean: function 9 (given) -/
/-- A part that no clean path has. -/
def file_Clean.odd (s : ByteArray) : Bool := s.toList == ([] : List UInt8) || s.toList == ([46] : List UInt8) || s.toList == ([46, 46] : List UInt8)
def file_Clean.f (a0 : ByteArray) : Option Bool := if a0.toList = ([47] : List UInt8) then some true else (strings_HasPrefix.f a0 (⟨#[47]⟩ : ByteArray)).bind fun t => if t = true then (file_apart.f a0).bind fun l => if l.length ≤ 9223372036854775807 then some (!(l.any file_Clean.odd)) else none else some false
set_option maxHeartbeats 4000000 in
theorem file_Clean.pred (w : World) : PredAt Tryd.prog 21 #[] (fun x => .string x) file_Clean.odd w := by
  intro W x _
  unfold FnGives
  show Calls Tryd.prog 21 #[.string x] W fun e w' => e = .returned (.bool (file_Clean.odd x)) ∧ ∃ q, w' = W.drewN q
  unfold file_Clean.odd
  cases c1 : (x.toList == ([] : List UInt8)) <;> cases c2 : (x.toList == ([46] : List UInt8)) <;> cases c3 : (x.toList == ([46, 46] : List UInt8)) <;>
    (go_enter Tryd.func21, Tryd.ntmps21
     go_wp2
     go_ret
     exact ⟨rfl, 0, rfl⟩)
set_option maxHeartbeats 4000000 in
theorem file_Clean.calls (a0 : ByteArray) (r : Bool) (w : World) (hE : EnvOK w) (h : file_Clean.f a0 = some r) :
    Calls Tryd.prog 9 #[.string a0] w fun e w' => e = .returned (.bool r) ∧ Below w.heap.size w w' := by
  unfold file_Clean.f at h
  by_cases h0 : a0.toList = ([47] : List UInt8)
  · rw [if_pos h0] at h
    obtain rfl := Option.some.inj h
    have b0 : (a0.toList == ([47] : List UInt8)) = true := beq_iff_eq.mpr h0
    clear h0 h
    go_enter Tryd.func9, Tryd.ntmps9
    go_wp2
    go_ret
    exact ⟨rfl, Below.refl _ _⟩
  · rw [if_neg h0] at h
    have b0 : (a0.toList == ([47] : List UInt8)) = false := beq_eq_false_iff_ne.mpr h0
    clear h0
    obtain ⟨t, ht, h⟩ := Option.bind_eq_some_iff.mp h
    have hP : ∀ W, Calls Tryd.prog 19 #[.string a0, .string (⟨#[47]⟩ : ByteArray)] W fun e w' => e = .returned (.bool t) ∧ Drawn0 W w' := fun W => strings_HasPrefix.calls a0 (⟨#[47]⟩ : ByteArray) t W ht
    cases t with
    | false =>
      rw [if_neg (by decide)] at h
      obtain rfl := Option.some.inj h
      clear h
      go_enter Tryd.func9, Tryd.ntmps9
      go_wp2_with ((with_reducible refine gate_callee (f := 19) rfl ?_); refine goesL_ (some 6) rfl rfl Tryd.func19 (by kernel_rfl) rfl #[.string a0, .string (⟨#[47]⟩ : ByteArray)] rfl (by (try simp only [List.map_toArray, List.map_cons, List.map_nil]); first | done | rfl) ?_; refine (hP _).mono ?_; rintro e w' ⟨rfl, ⟨nd, rfl⟩⟩; refine ⟨_, rfl, ?_⟩)
      go_ret
      exact ⟨rfl, by repeat (first | exact Below.refl _ _ | apply pw_below_drewN | apply below_drew1)⟩
    | true =>
      rw [if_pos rfl] at h
      obtain ⟨l, hl, h⟩ := Option.bind_eq_some_iff.mp h
      by_cases hn : l.length ≤ 9223372036854775807
      · rw [if_pos hn] at h
        obtain rfl := Option.some.inj h
        clear h
        have hA : ∀ W, EnvOK W → Calls Tryd.prog 13 #[.string a0] W fun e w' => ∃ v0_ : Value, e = .returned (v0_) ∧ Kd.Q Kd.string 9 w' W.heap.size (fun _ => True) v0_ l ∧ Below W.heap.size W w' := fun W hW => file_apart.calls a0 l W hW hl
        have hC : ∀ (W : World) (B : Nat) v, Kd.Q Kd.string 9 W B (fun _ => True) v l → Calls Tryd.prog 20 #[v, .func (.func 21) #[] #[]] W fun e w' => e = .returned (.bool (l.any file_Clean.odd)) ∧ ∃ q, w' = W.drewN q := by
          intro W B v hv
          obtain ⟨Ao, co, rfl, _⟩ := Kd.Q_slice hv
          by_cases hl0 : l = []
          · subst hl0
            exact (Tryd.slices_ContainsFunc_empty (α := ByteArray) Ao co _ W).mono fun e w' ⟨he, hw⟩ => ⟨he, 0, hw⟩
          · have hr := (Kd.Q_reads' hv)
            obtain ⟨b, o, rfl, hb, hcell⟩ := YthnlgnnodgeneaaDoorL.strings_at hr.2.2 (List.length_pos_iff.2 hl0)
            have := Tryd.slices_ContainsFunc (α := ByteArray) (fun x => .string x) file_Clean.odd 21 #[] (enters_of Tryd.func21 (by kernel_rfl) rfl) b o l.length co l W (file_Clean.pred W) (Nat.le_refl _) hn (fun j hj => by
              rw [getElem!_pos l j hj]
              exact hcell j _ (List.getElem?_eq_getElem hj))
            rw [List.take_length] at this
            exact this
        have hB := Aside0.mk (Below.refl w.heap.size w)
        have HE := Aside0.mk hE
        clear hE
        go_enter Tryd.func9, Tryd.ntmps9
        go_wp2_with (first | ((with_reducible refine gate_callee (f := 19) rfl ?_); refine goesL_ (some 6) rfl rfl Tryd.func19 (by kernel_rfl) rfl #[.string a0, .string (⟨#[47]⟩ : ByteArray)] rfl (by (try simp only [List.map_toArray, List.map_cons, List.map_nil]); first | done | rfl) ?_; refine (hP _).mono ?_; rintro e w' ⟨rfl, ⟨nd, rfl⟩⟩; refine ⟨_, rfl, ?_⟩) | ((with_reducible refine gate_callee (f := 13) rfl ?_); refine goesL_ (some 9) rfl rfl Tryd.func13 (by kernel_rfl) rfl #[.string a0] rfl (by (try simp only [List.map_toArray, List.map_cons, List.map_nil]); first | done | rfl) ?_; refine (hA _ (EnvOK.step HE.out (by repeat (first | (with_reducible first | exact hB.out | apply below_alloc | apply pw_below_drewN | apply below_drew1) | exact hB.out)))).mono ?_; rintro e w1 ⟨v1, rfl, hQ0, hB1⟩; refine ⟨_, rfl, ?_⟩; have hQ := Aside0.mk hQ0; have n1_ := Aside0.mk (below_step (by repeat (first | (with_reducible first | exact hB.out | apply below_alloc | apply pw_below_drewN | apply below_drew1) | exact hB.out)) hB1); clear hB hB1 hQ0; have hB := n1_; clear n1_) | ((with_reducible refine gate_callee (f := 20) rfl ?_); refine goesL_ (some 10) rfl rfl Tryd.func20 (by kernel_rfl) rfl #[v1, .func (.func 21) #[] #[]] rfl (by (try simp only [List.map_toArray, List.map_cons, List.map_nil]); first | done | rfl) ?_; refine (hC _ _ _ hQ.out).mono ?_; rintro e w' ⟨rfl, q, rfl⟩; refine ⟨_, rfl, ?_⟩))
        go_ret
        exact ⟨rfl, by repeat (first | (with_reducible first | exact hB.out | apply below_alloc | apply pw_below_drewN | apply below_drew1) | exact hB.out)⟩
      · rw [if_neg hn] at h; cases h


/-! ### pct_extra: function 42 -/
def pct_extra.f (a0 : Int) : Option (ByteArray × Bool) := if a0 = 0 then (some ((⟨#[]⟩ : ByteArray), true)) else (if a0 = 1 then (some ((⟨#[32, 34, 60, 62, 96]⟩ : ByteArray), true)) else (if a0 = 2 then (some ((⟨#[32, 34, 35, 60, 62]⟩ : ByteArray), true)) else (if a0 = 3 then (some ((⟨#[32, 34, 35, 60, 62, 39]⟩ : ByteArray), true)) else (if a0 = 4 then (some ((⟨#[32, 34, 35, 60, 62, 63, 94, 96, 123, 125]⟩ : ByteArray), true)) else (if a0 = 5 then (some ((⟨#[32, 34, 35, 60, 62, 63, 94, 96, 123, 125, 47, 58, 59, 61, 64, 91, 92, 93, 124]⟩ : ByteArray), true)) else (if a0 = 6 then (some ((⟨#[32, 34, 35, 60, 62, 63, 94, 96, 123, 125, 47, 58, 59, 61, 64, 91, 92, 93, 124, 36, 37, 38, 43, 44]⟩ : ByteArray), true)) else (some ((⟨#[]⟩ : ByteArray), false))))))))
set_option maxHeartbeats 8000000 in
set_option maxRecDepth 100000 in
theorem pct_extra.calls (a0 : Int) (r1 : ByteArray) (r2 : Bool) (w : World) (h : pct_extra.f a0 = some (r1, r2)) :
    Calls Tryd.prog 42 #[.int .i64 a0] w fun e w' => e = .returned (.tuple #[.string r1, .bool r2]) ∧ Drawn0 w w' := by
  have H : (if a0 = 0 then (some ((⟨#[]⟩ : ByteArray), true)) else (if a0 = 1 then (some ((⟨#[32, 34, 60, 62, 96]⟩ : ByteArray), true)) else (if a0 = 2 then (some ((⟨#[32, 34, 35, 60, 62]⟩ : ByteArray), true)) else (if a0 = 3 then (some ((⟨#[32, 34, 35, 60, 62, 39]⟩ : ByteArray), true)) else (if a0 = 4 then (some ((⟨#[32, 34, 35, 60, 62, 63, 94, 96, 123, 125]⟩ : ByteArray), true)) else (if a0 = 5 then (some ((⟨#[32, 34, 35, 60, 62, 63, 94, 96, 123, 125, 47, 58, 59, 61, 64, 91, 92, 93, 124]⟩ : ByteArray), true)) else (if a0 = 6 then (some ((⟨#[32, 34, 35, 60, 62, 63, 94, 96, 123, 125, 47, 58, 59, 61, 64, 91, 92, 93, 124, 36, 37, 38, 43, 44]⟩ : ByteArray), true)) else (some ((⟨#[]⟩ : ByteArray), false))))))))) = some (r1, r2) := h
  clear h
  by_cases c2 : a0 = 0
  · rw [if_pos c2] at H
    have c2b0 : (a0 == 0) = true := beq_iff_eq.mpr c2
    have c2b1 : (a0 != 0) = false := bne_eq_false_iff_eq.mpr c2
    clear c2
    simp only [Option.some.injEq, Prod.mk.injEq] at H
    obtain ⟨rfl, rfl⟩ := H
    go_enter Tryd.func42, Tryd.ntmps42
    go_wp2
    go_ret2
    exact ⟨by first | rfl | (simp; done) | (simp [*]; done), by repeat (first | exact Drawn0.refl _ | apply Drawn0.step)⟩
  · rw [if_neg c2] at H
    have c2b0 : (a0 == 0) = false := beq_eq_false_iff_ne.mpr c2
    have c2b1 : (a0 != 0) = true := bne_iff_ne.mpr c2
    by_cases c3 : a0 = 1
    · rw [if_pos c3] at H
      have c3b0 : (a0 == 1) = true := beq_iff_eq.mpr c3
      have c3b1 : (a0 != 1) = false := bne_eq_false_iff_eq.mpr c3
      clear c3
      simp only [Option.some.injEq, Prod.mk.injEq] at H
      obtain ⟨rfl, rfl⟩ := H
      go_enter Tryd.func42, Tryd.ntmps42
      go_wp2
      go_ret2
      exact ⟨by first | rfl | (simp; done) | (simp [*]; done), by repeat (first | exact Drawn0.refl _ | apply Drawn0.step)⟩
    · rw [if_neg c3] at H
      have c3b0 : (a0 == 1) = false := beq_eq_false_iff_ne.mpr c3
      have c3b1 : (a0 != 1) = true := bne_iff_ne.mpr c3
      by_cases c4 : a0 = 2
      · rw [if_pos c4] at H
        have c4b0 : (a0 == 2) = true := beq_iff_eq.mpr c4
        have c4b1 : (a0 != 2) = false := bne_eq_false_iff_eq.mpr c4
        clear c4
        simp only [Option.some.injEq, Prod.mk.injEq] at H
        obtain ⟨rfl, rfl⟩ := H
        go_enter Tryd.func42, Tryd.ntmps42
        go_wp2
        go_ret2
        exact ⟨by first | rfl | (simp; done) | (simp [*]; done), by repeat (first | exact Drawn0.refl _ | apply Drawn0.step)⟩
      · rw [if_neg c4] at H
        have c4b0 : (a0 == 2) = false := beq_eq_false_iff_ne.mpr c4
        have c4b1 : (a0 != 2) = true := bne_iff_ne.mpr c4
        by_cases c5 : a0 = 3
        · rw [if_pos c5] at H
          have c5b0 : (a0 == 3) = true := beq_iff_eq.mpr c5
          have c5b1 : (a0 != 3) = false := bne_eq_false_iff_eq.mpr c5
          clear c5
          simp only [Option.some.injEq, Prod.mk.injEq] at H
          obtain ⟨rfl, rfl⟩ := H
          go_enter Tryd.func42, Tryd.ntmps42
          go_wp2
          go_ret2
          exact ⟨by first | rfl | (simp; done) | (simp [*]; done), by repeat (first | exact Drawn0.refl _ | apply Drawn0.step)⟩
        · rw [if_neg c5] at H
          have c5b0 : (a0 == 3) = false := beq_eq_false_iff_ne.mpr c5
          have c5b1 : (a0 != 3) = true := bne_iff_ne.mpr c5
          by_cases c6 : a0 = 4
          · rw [if_pos c6] at H
            have c6b0 : (a0 == 4) = true := beq_iff_eq.mpr c6
            have c6b1 : (a0 != 4) = false := bne_eq_false_iff_eq.mpr c6
            clear c6
            simp only [Option.some.injEq, Prod.mk.injEq] at H
            obtain ⟨rfl, rfl⟩ := H
            go_enter Tryd.func42, Tryd.ntmps42
            go_wp2
            go_ret2
            exact ⟨by first | rfl | (simp; done) | (simp [*]; done), by repeat (first | exact Drawn0.refl _ | apply Drawn0.step)⟩
          · rw [if_neg c6] at H
            have c6b0 : (a0 == 4) = false := beq_eq_false_iff_ne.mpr c6
            have c6b1 : (a0 != 4) = true := bne_iff_ne.mpr c6
            by_cases c7 : a0 = 5
            · rw [if_pos c7] at H
              have c7b0 : (a0 == 5) = true := beq_iff_eq.mpr c7
              have c7b1 : (a0 != 5) = false := bne_eq_false_iff_eq.mpr c7
              clear c7
              simp only [Option.some.injEq, Prod.mk.injEq] at H
              obtain ⟨rfl, rfl⟩ := H
              go_enter Tryd.func42, Tryd.ntmps42
              go_wp2
              go_ret2
              exact ⟨by first | rfl | (simp; done) | (simp [*]; done), by repeat (first | exact Drawn0.refl _ | apply Drawn0.step)⟩
            · rw [if_neg c7] at H
              have c7b0 : (a0 == 5) = false := beq_eq_false_iff_ne.mpr c7
              have c7b1 : (a0 != 5) = true := bne_iff_ne.mpr c7
              by_cases c8 : a0 = 6
              · rw [if_pos c8] at H
                have c8b0 : (a0 == 6) = true := beq_iff_eq.mpr c8
                have c8b1 : (a0 != 6) = false := bne_eq_false_iff_eq.mpr c8
                clear c8
                simp only [Option.some.injEq, Prod.mk.injEq] at H
                obtain ⟨rfl, rfl⟩ := H
                go_enter Tryd.func42, Tryd.ntmps42
                go_wp2
                go_ret2
                exact ⟨by first | rfl | (simp; done) | (simp [*]; done), by repeat (first | exact Drawn0.refl _ | apply Drawn0.step)⟩
              · rw [if_neg c8] at H
                have c8b0 : (a0 == 6) = false := beq_eq_false_iff_ne.mpr c8
                have c8b1 : (a0 != 6) = true := bne_iff_ne.mpr c8
                simp only [Option.some.injEq, Prod.mk.injEq] at H
                obtain ⟨rfl, rfl⟩ := H
                go_enter Tryd.func42, Tryd.ntmps42
                go_wp2
                go_ret2
                exact ⟨by first | rfl | (simp; done) | (simp [*]; done), by repeat (first | exact Drawn0.refl _ | apply Drawn0.step)⟩

/-! ### stringslite_IndexByte: function 55 (given) -/
def stringslite_IndexByte.f (a0 : ByteArray) (a1 : Int) : Option Int := some (Go.Lib.indexByte a0.data.toList a1.toNat.toUInt8)
theorem stringslite_IndexByte.calls (a0 : ByteArray) (a1 : Int) (r : Int) (w : World) (h : stringslite_IndexByte.f a0 a1 = some r) :
    Calls Tryd.prog 55 #[.string a0, .int .u8 a1] w fun e w' => e = .returned (.int .i64 r) ∧ Drawn0 w w' := by
  obtain rfl := Option.some.inj h
  exact (Tryd.stringslite_IndexByte a0 a1 w).mono fun e w' ⟨he, hw⟩ => ⟨he, hw ▸ Drawn0.refl _⟩



/-! ### strings_IndexByte: function 43 -/
def strings_IndexByte.f (a0 : ByteArray) (a1 : Int) : Option (Int) := (stringslite_IndexByte.f a0 a1).bind fun t108 => (some t108)
set_option maxHeartbeats 8000000 in
set_option maxRecDepth 100000 in
theorem strings_IndexByte.calls (a0 : ByteArray) (a1 : Int) (r : Int) (w : World) (h : strings_IndexByte.f a0 a1 = some r) :
    Calls Tryd.prog 43 #[.string a0, .int .u8 a1] w fun e w' => e = .returned (.int .i64 r) ∧ Drawn0 w w' := by
  have H : ((stringslite_IndexByte.f a0 a1).bind fun t108 => (some t108)) = some r := h
  clear h
  replace H := Option.bind_eq_some_iff.mp H
  obtain ⟨t108, A30, H⟩ := H
  replace H : (some t108) = some r := H
  have A3 := Aside0.mk A30
  clear A30
  obtain rfl := Option.some.inj H
  go_enter Tryd.func43, Tryd.ntmps43
  go_wp2_with (first | ((with_reducible refine gate_callee (f := 55) rfl ?_); refine goesL_ (some 7) rfl rfl Tryd.func55 (by kernel_rfl) rfl #[.string a0, .int .u8 a1] rfl (by (try simp only [List.map_toArray, List.map_cons, List.map_nil]); first | done | rfl | (simp only [List.length_drop, List.length_take]; rfl)) ?_; (with_reducible refine (stringslite_IndexByte.calls a0 a1 t108 _ A3.out).mono ?_); rintro e w' ⟨rfl, ⟨nd, rfl⟩⟩; refine ⟨_, rfl, ?_⟩))
  go_ret
  exact ⟨by first | rfl | (simp; done) | (simp [*]; done), by repeat (first | exact Drawn0.refl _ | apply Drawn0.step)⟩

/-! ### pct_In: function 29 -/
def pct_In.j0 : Nat → Int → ByteArray → Bool → Option (Bool)
  | 0, _, _, _ => none
  | k + 1, x1, x5, x12 => if x12 = true then (some false) else (if x1 < 32 then (some true) else (if x1 > 126 then (some true) else ((strings_IndexByte.f x5 ((x1) % 256)).bind fun t111 => (some (decide (t111 ≥ 0))))))
def pct_In.f (k : Nat) (a0 : Int) (a1 : Int) : Option (Bool) := (pct_extra.f a0).bind fun bt109 => (if bt109.2 = true then (if a1 < 0 then (pct_In.j0 k a1 bt109.1 true) else (pct_In.j0 k a1 bt109.1 (decide (a1 > 1114111)))) else (pct_In.j0 k a1 bt109.1 true))
theorem pct_In.mono_l : ∀ k, (∀ y0 y1 y2, LeO (pct_In.j0 k y0 y1 y2) (pct_In.j0 (k + 1) y0 y1 y2))
  | 0 => fun _ _ _ r h => by simp [pct_In.j0] at h
  | k + 1 => by
    have ih0 := pct_In.mono_l k
    · intro y0 y1 y2
      unfold pct_In.j0
      repeat' first
      | (with_reducible exact ih0 _ _ _)
      | (with_reducible exact LeO.refl _)
      | (with_reducible exact LeO.none _)
      | (with_reducible refine LeO.ite ?_ ?_)
      | (with_reducible refine LeO.bind ?_ (fun _ => ?_))
      | exact ih0 _ _ _
      | exact LeO.none _
      | refine LeO.ite ?_ ?_
      | refine LeO.bind ?_ (fun _ => ?_)
theorem pct_In.mono : ∀ a0 a1 k, LeO (pct_In.f k a0 a1) (pct_In.f (k + 1) a0 a1) := by
  intro a0 a1 k
  have ih0 := pct_In.mono_l k
  unfold pct_In.f
  repeat' first
      | (with_reducible exact ih0 _ _ _)
      | (with_reducible exact LeO.refl _)
      | (with_reducible exact LeO.none _)
      | (with_reducible refine LeO.ite ?_ ?_)
      | (with_reducible refine LeO.bind ?_ (fun _ => ?_))
      | exact ih0 _ _ _
      | exact LeO.none _
      | refine LeO.ite ?_ ?_
      | refine LeO.bind ?_ (fun _ => ?_)
set_option maxHeartbeats 8000000 in
set_option maxRecDepth 100000 in
theorem pct_In.calls (k : Nat) (a0 : Int) (a1 : Int) (r : Bool) (w : World) (h : pct_In.f k a0 a1 = some r) :
    Calls Tryd.prog 29 #[.int .i64 a0, .int .i32 a1] w fun e w' => e = .returned (.bool r) ∧ Drawn0 w w' := by
  have H : ((pct_extra.f a0).bind fun bt109 => (if bt109.2 = true then (if a1 < 0 then (pct_In.j0 k a1 bt109.1 true) else (pct_In.j0 k a1 bt109.1 (decide (a1 > 1114111)))) else (pct_In.j0 k a1 bt109.1 true))) = some r := h
  clear h
  replace H := Option.bind_eq_some_iff.mp H
  obtain ⟨⟨t109, t110⟩, A30, H⟩ := H
  replace H : (if t110 = true then (if a1 < 0 then (pct_In.j0 k a1 t109 true) else (pct_In.j0 k a1 t109 (decide (a1 > 1114111)))) else (pct_In.j0 k a1 t109 true)) = some r := H
  have A3 := Aside0.mk A30
  clear A30
  have HC4 := Aside0.mk H
  clear H
  go_enter Tryd.func29, Tryd.ntmps29
  go_upto_region 2 with (first | ((with_reducible refine gate_callee (f := 42) rfl ?_); refine goesL_ (some 9) rfl rfl Tryd.func42 (by kernel_rfl) rfl #[.int .i64 a0] rfl (by (try simp only [List.map_toArray, List.map_cons, List.map_nil]); first | done | rfl | (simp only [List.length_drop, List.length_take]; rfl)) ?_; (with_reducible refine (pct_extra.calls a0 t109 t110 _ A3.out).mono ?_); rintro e w' ⟨rfl, ⟨nd, rfl⟩⟩; refine ⟨_, rfl, ?_⟩))
  (try simp only [Act.put, List.setIfInBounds_toArray, List.set_cons_zero, List.set_cons_succ])
  go_cut [12] (fun v12 wc => ∃ (kq : Nat) (x12_3 : Bool), v12 = .bool x12_3 ∧ Aside0 (pct_In.j0 kq a1 t109 x12_3 = some r) ∧ Aside0 (kq ≤ k) ∧ Drawn0 w wc)
  case first =>
    have H := HC4.out
    clear HC4
    by_cases c5 : t110 = true
    · subst c5
      have H1 : (if a1 < 0 then (pct_In.j0 k a1 t109 true) else (pct_In.j0 k a1 t109 (decide (a1 > 1114111)))) = some r := by rw [if_pos rfl] at H; exact H
      clear H
      have H := H1
      clear H1
      by_cases c6 : a1 < 0
      · rw [if_pos c6] at H
        have c6b0 : decide (a1 < 0) = true := decide_eq_true c6
        clear c6
        (first | rw [c6b0] | (simp only [i64_w, i32_w]; rw [c6b0]) | skip)
        have H' := Aside0.mk H
        clear H
        go_wp2
        go_meet
        case rel => exact ⟨_, (true), (by first | rfl | (simp; done) | (simp [*]; done)), H', ⟨by first | omega | exact Nat.le_refl _⟩, by repeat (first | exact Drawn0.refl _ | apply Drawn0.step)⟩
      · rw [if_neg c6] at H
        have c6b0 : decide (a1 < 0) = false := decide_eq_false c6
        clear c6
        (first | rw [c6b0] | (simp only [i64_w, i32_w]; rw [c6b0]) | skip)
        have H' := Aside0.mk H
        clear H
        go_wp2
        go_meet
        case rel => exact ⟨_, (decide (a1 > 1114111)), (by first | rfl | (simp; done) | (simp [*]; done)), H', ⟨by first | omega | exact Nat.le_refl _⟩, by repeat (first | exact Drawn0.refl _ | apply Drawn0.step)⟩
    · replace c5 := Bool.eq_false_iff.mpr c5
      subst c5
      have H1 : (pct_In.j0 k a1 t109 true) = some r := by rw [if_neg (show ¬ (false = true) by decide)] at H; exact H
      clear H
      have H := H1
      clear H1
      have H' := Aside0.mk H
      clear H
      go_wp2
      go_meet
      case rel => exact ⟨_, (true), (by first | rfl | (simp; done) | (simp [*]; done)), H', ⟨by first | omega | exact Nat.le_refl _⟩, by repeat (first | exact Drawn0.refl _ | apply Drawn0.step)⟩
  case rest =>
    clear HC4
    try clear c2
    try clear p2
    try clear c4
    try clear c5
    try clear c6
    try clear c6b0
    obtain ⟨kq, x12_3, rfl, HA, HJ3, ⟨mc3, rfl⟩⟩ := hcut
    cases kq with
    | zero => exact absurd HA.out (by simp [pct_In.j0])
    | succ kj3 =>
      have H := HA.out
      clear HA
      simp only [pct_In.j0] at H
      by_cases c7 : x12_3 = true
      · subst c7
        have H1 : (some false) = some r := by rw [if_pos rfl] at H; exact H
        clear H
        have H := H1
        clear H1
        obtain rfl := Option.some.inj H
        go_wp2
        go_ret
        exact ⟨by first | rfl | (simp; done) | (simp [*]; done), by repeat (first | exact Drawn0.refl _ | apply Drawn0.step)⟩
      · replace c7 := Bool.eq_false_iff.mpr c7
        subst c7
        have H1 : (if a1 < 32 then (some true) else (if a1 > 126 then (some true) else ((strings_IndexByte.f t109 ((a1) % 256)).bind fun t111 => (some (decide (t111 ≥ 0)))))) = some r := by rw [if_neg (show ¬ (false = true) by decide)] at H; exact H
        clear H
        have H := H1
        clear H1
        by_cases c8 : a1 < 32
        · rw [if_pos c8] at H
          have c8b0 : decide (a1 < 32) = true := decide_eq_true c8
          clear c8
          obtain rfl := Option.some.inj H
          go_wp2
          go_ret
          exact ⟨by first | rfl | (simp; done) | (simp [*]; done), by repeat (first | exact Drawn0.refl _ | apply Drawn0.step)⟩
        · rw [if_neg c8] at H
          have c8b0 : decide (a1 < 32) = false := decide_eq_false c8
          clear c8
          by_cases c9 : a1 > 126
          · rw [if_pos c9] at H
            have c9b0 : decide (126 < a1) = true := decide_eq_true c9
            clear c9
            obtain rfl := Option.some.inj H
            go_wp2
            go_ret
            exact ⟨by first | rfl | (simp; done) | (simp [*]; done), by repeat (first | exact Drawn0.refl _ | apply Drawn0.step)⟩
          · rw [if_neg c9] at H
            have c9b0 : decide (126 < a1) = false := decide_eq_false c9
            clear c9
            replace H := Option.bind_eq_some_iff.mp H
            obtain ⟨t111, A100, H⟩ := H
            replace H : (some (decide (t111 ≥ 0))) = some r := H
            have A10 := Aside0.mk A100
            clear A100
            obtain rfl := Option.some.inj H
            go_wp2_with (first | ((with_reducible refine gate_callee (f := 43) rfl ?_); refine goesL_ (some 33) rfl rfl Tryd.func43 (by kernel_rfl) rfl #[.string t109, .int .u8 ((a1) % 256)] rfl (by (try simp only [List.map_toArray, List.map_cons, List.map_nil]); first | done | rfl | (simp only [List.length_drop, List.length_take]; rfl)) ?_; (with_reducible refine (strings_IndexByte.calls t109 ((a1) % 256) t111 _ A10.out).mono ?_); rintro e w' ⟨rfl, ⟨nd, rfl⟩⟩; refine ⟨_, rfl, ?_⟩))
            go_ret
            exact ⟨by first | rfl | (simp; done) | (simp [*]; done), by repeat (first | exact Drawn0.refl _ | apply Drawn0.step)⟩

end Go.Proofs.YthnlgnnodgeneaaDoor.PF
