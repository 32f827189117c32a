-- WRITTEN BY A PROGRAM OF THIS SESSION (wip/tools/xprint.py, over the kit's print.py).
import Derived.Test.YtcpfhnodbgojaaaDoorPFx0
import Derived.Test.YtcpfhnodbgojaaaDoorPFx6
namespace Go.Proofs.YtcpfhnodbgojaaaDoor.PF
open Go.RowKit Go.Proofs.YtcpfhnodbgojaaaDoorW.PrintWords Go.Proofs.YtcpfhnodbgojaaaDoorW.PrintLast Go.Proofs.YtcpfhnodbgojaaaDoorW.PrintMore Go.Proofs.YtcpfhnodbgojaaaDoorE
attribute [local go_sem] max2_int min2_int max_two min_two max_three min_three max_four min_four   -- for this text's walks alone
set_option linter.unusedVariables false
set_option linter.unusedSimpArgs false

/-! ### gossamerref9_four: function 30 -/
mutual
def gossamerref9_four.l0 : Nat → List ByteArray → Int → Int → Int → Int → Int → Option (Int × Int × Bool)
  | 0, _, _, _, _, _, _ => none
  | k + 1, x5, x7, x167000, x167001, x167002, x167003 => if x7 < 4 then (if 0 ≤ x7 then (if x7 < (x5.length : Int) then (if ((rdOf ByteArray.empty x5 x7).size : Int) < 1 then (gossamerref9_four.j1 k x5 x7 true x167000 x167001 x167002 x167003) else (if ((rdOf ByteArray.empty x5 x7).size : Int) > 3 then (gossamerref9_four.j1 k x5 x7 true x167000 x167001 x167002 x167003) else (if ((rdOf ByteArray.empty x5 x7).size : Int) > 1 then (if 0 < ((rdOf ByteArray.empty x5 x7).size : Int) then (gossamerref9_four.j1 k x5 x7 ((bt (rdOf ByteArray.empty x5 x7) 0) == 48) x167000 x167001 x167002 x167003) else (none)) else (gossamerref9_four.j1 k x5 x7 false x167000 x167001 x167002 x167003)))) else (none)) else (none)) else (some (Go.bits .or .i64 (wrap64 (x167000 * 256)) x167001, Go.bits .or .i64 (wrap64 (x167002 * 256)) x167003, true))
def gossamerref9_four.j1 : Nat → List ByteArray → Int → Bool → Int → Int → Int → Int → Option (Int × Int × Bool)
  | 0, _, _, _, _, _, _, _ => none
  | k + 1, x5, x7, x47, x167000, x167001, x167002, x167003 => if x47 = true then (some (0, 0, false)) else (gossamerref9_four.l1 k x5 x7 0 x167000 x167001 x167002 x167003)
def gossamerref9_four.l1 : Nat → List ByteArray → Int → Int → Int → Int → Int → Int → Option (Int × Int × Bool)
  | 0, _, _, _, _, _, _, _ => none
  | k + 1, x5, x7, x8, x167000, x167001, x167002, x167003 => if 0 ≤ x7 then (if x7 < (x5.length : Int) then (if x8 < ((rdOf ByteArray.empty x5 x7).size : Int) then (if 0 ≤ x8 then (if (bt (rdOf ByteArray.empty x5 x7) x8) < 48 then (some (0, 0, false)) else (if (bt (rdOf ByteArray.empty x5 x7) x8) > 57 then (some (0, 0, false)) else (if x7 < 4 then (gossamerref9_four.l1 k x5 x7 (wrap64 (x8 + 1)) (if x7 = 0 then wrap64 ((wrap64 ((rd ([x167000, x167001, x167002, x167003] : List Int) x7) * 10)) + (wrap64 (((bt (rdOf ByteArray.empty x5 x7) x8) - 48) % 256))) else x167000) (if x7 = 1 then wrap64 ((wrap64 ((rd ([x167000, x167001, x167002, x167003] : List Int) x7) * 10)) + (wrap64 (((bt (rdOf ByteArray.empty x5 x7) x8) - 48) % 256))) else x167001) (if x7 = 2 then wrap64 ((wrap64 ((rd ([x167000, x167001, x167002, x167003] : List Int) x7) * 10)) + (wrap64 (((bt (rdOf ByteArray.empty x5 x7) x8) - 48) % 256))) else x167002) (if x7 = 3 then wrap64 ((wrap64 ((rd ([x167000, x167001, x167002, x167003] : List Int) x7) * 10)) + (wrap64 (((bt (rdOf ByteArray.empty x5 x7) x8) - 48) % 256))) else x167003)) else (none)))) else (none)) else (if x7 < 4 then (if (rd ([x167000, x167001, x167002, x167003] : List Int) x7) > 255 then (some (0, 0, false)) else (gossamerref9_four.l0 k x5 (wrap64 (x7 + 1)) x167000 x167001 x167002 x167003)) else (none))) else (none)) else (none)
end
def gossamerref9_four.f (k : Nat) (a0 : ByteArray) : Option (Int × Int × Bool) := (gossamerref8_Parts.f k a0 46).bind fun t163 => (if (t163.length : Int) = 4 then (gossamerref9_four.l0 k t163 0 0 0 0 0) else (some (0, 0, false)))
theorem gossamerref9_four.mono_l : ∀ k, (∀ y0 y1 y2 y3 y4 y5, LeO (gossamerref9_four.l0 k y0 y1 y2 y3 y4 y5) (gossamerref9_four.l0 (k + 1) y0 y1 y2 y3 y4 y5)) ∧ (∀ y0 y1 y2 y3 y4 y5 y6, LeO (gossamerref9_four.j1 k y0 y1 y2 y3 y4 y5 y6) (gossamerref9_four.j1 (k + 1) y0 y1 y2 y3 y4 y5 y6)) ∧ (∀ y0 y1 y2 y3 y4 y5 y6, LeO (gossamerref9_four.l1 k y0 y1 y2 y3 y4 y5 y6) (gossamerref9_four.l1 (k + 1) y0 y1 y2 y3 y4 y5 y6))
  | 0 => ⟨fun _ _ _ _ _ _ r h => by simp [gossamerref9_four.l0] at h, fun _ _ _ _ _ _ _ r h => by simp [gossamerref9_four.j1] at h, fun _ _ _ _ _ _ _ r h => by simp [gossamerref9_four.l1] at h⟩
  | k + 1 => by
    obtain ⟨ih0, ih1, ih2⟩ := gossamerref9_four.mono_l k
    refine ⟨?_, ?_, ?_⟩
    · intro y0 y1 y2 y3 y4 y5
      unfold gossamerref9_four.l0
      repeat' first
      | (with_reducible exact ih0 _ _ _ _ _ _)
      | (with_reducible exact ih1 _ _ _ _ _ _ _)
      | (with_reducible exact ih2 _ _ _ _ _ _ _)
      | (with_reducible exact gossamerref8_Parts.mono _ _ _)
      | (with_reducible exact LeO.refl _)
      | (with_reducible exact LeO.none _)
      | (with_reducible refine LeO.ite ?_ ?_)
      | (with_reducible refine LeO.bind ?_ (fun _ => ?_))
      | exact ih0 _ _ _ _ _ _
      | exact ih1 _ _ _ _ _ _ _
      | exact ih2 _ _ _ _ _ _ _
      | exact gossamerref8_Parts.mono _ _ _
      | exact LeO.none _
      | refine LeO.ite ?_ ?_
      | refine LeO.bind ?_ (fun _ => ?_)
    · intro y0 y1 y2 y3 y4 y5 y6
      unfold gossamerref9_four.j1
      repeat' first
      | (with_reducible exact ih0 _ _ _ _ _ _)
      | (with_reducible exact ih1 _ _ _ _ _ _ _)
      | (with_reducible exact ih2 _ _ _ _ _ _ _)
      | (with_reducible exact gossamerref8_Parts.mono _ _ _)
      | (with_reducible exact LeO.refl _)
      | (with_reducible exact LeO.none _)
      | (with_reducible refine LeO.ite ?_ ?_)
      | (with_reducible refine LeO.bind ?_ (fun _ => ?_))
      | exact ih0 _ _ _ _ _ _
      | exact ih1 _ _ _ _ _ _ _
      | exact ih2 _ _ _ _ _ _ _
      | exact gossamerref8_Parts.mono _ _ _
      | exact LeO.none _
      | refine LeO.ite ?_ ?_
      | refine LeO.bind ?_ (fun _ => ?_)
    · intro y0 y1 y2 y3 y4 y5 y6
      unfold gossamerref9_four.l1
      repeat' first
      | (with_reducible exact ih0 _ _ _ _ _ _)
      | (with_reducible exact ih1 _ _ _ _ _ _ _)
      | (with_reducible exact ih2 _ _ _ _ _ _ _)
      | (with_reducible exact gossamerref8_Parts.mono _ _ _)
      | (with_reducible exact LeO.refl _)
      | (with_reducible exact LeO.none _)
      | (with_reducible refine LeO.ite ?_ ?_)
      | (with_reducible refine LeO.bind ?_ (fun _ => ?_))
      | exact ih0 _ _ _ _ _ _
      | exact ih1 _ _ _ _ _ _ _
      | exact ih2 _ _ _ _ _ _ _
      | exact gossamerref8_Parts.mono _ _ _
      | exact LeO.none _
      | refine LeO.ite ?_ ?_
      | refine LeO.bind ?_ (fun _ => ?_)
theorem gossamerref9_four.mono : ∀ a0 k, LeO (gossamerref9_four.f k a0) (gossamerref9_four.f (k + 1) a0) := by
  intro a0 k
  obtain ⟨ih0, ih1, ih2⟩ := gossamerref9_four.mono_l k
  unfold gossamerref9_four.f
  repeat' first
      | (with_reducible exact ih0 _ _ _ _ _ _)
      | (with_reducible exact ih1 _ _ _ _ _ _ _)
      | (with_reducible exact ih2 _ _ _ _ _ _ _)
      | (with_reducible exact gossamerref8_Parts.mono _ _ _)
      | (with_reducible exact LeO.refl _)
      | (with_reducible exact LeO.none _)
      | (with_reducible refine LeO.ite ?_ ?_)
      | (with_reducible refine LeO.bind ?_ (fun _ => ?_))
      | exact ih0 _ _ _ _ _ _
      | exact ih1 _ _ _ _ _ _ _
      | exact ih2 _ _ _ _ _ _ _
      | exact gossamerref8_Parts.mono _ _ _
      | exact LeO.none _
      | refine LeO.ite ?_ ?_
      | refine LeO.bind ?_ (fun _ => ?_)
def gossamerref9_four.T15 : Bool × List (List Nat × List Nat) := (true, [([], []), ([], []), ([1], [1]), ([2], [2]), ([3], [3]), ([], []), ([], []), ([5, 6], [5, 6]), ([7], [7]), ([], []), ([8, 9], [8, 9]), ([10], [10]), ([11], [11]), ([4, 12], [4, 12]), ([0, 0, 1, 2, 3, 4, 5, 6, 7, 8, 9, 10, 11, 12, 13], [0]), ([14, 13, 0, 1, 2, 3, 4, 5, 6, 7, 8, 9, 10, 11, 12, 13], [13, 14])])
def gossamerref9_four.B15 : List Nat := [0, 0, 2, 6, 14, 0, 0, 96, 224, 0, 992, 2016, 4064, 8190, 16383, 32767]
theorem gossamerref9_four.tab15 : rtab .any (opsOf Tryd.f30 15) = gossamerref9_four.T15 := by kernel_rfl
theorem gossamerref9_four.bits15 : waitsOk gossamerref9_four.T15.2 gossamerref9_four.B15 = true := by kernel_rfl
def gossamerref9_four.T18 : Bool × List (List Nat × List Nat) := (true, [([], []), ([0], [0]), ([1], [1]), ([], []), ([3], [3]), ([2, 4], [2, 4]), ([], []), ([6], [6]), ([7], [7]), ([], []), ([9], [9]), ([8, 10], [8, 10]), ([5, 0, 1, 2, 3, 4, 5], [5]), ([11, 12, 0, 1, 2, 3, 4, 5, 6, 7, 8, 9, 10, 11, 12], [11]), ([13, 0, 1, 2, 3, 4, 5, 6, 7, 8, 9, 10, 11, 12, 13], [])])
def gossamerref9_four.B18 : List Nat := [0, 1, 3, 0, 8, 31, 0, 64, 192, 0, 512, 1984, 63, 8191, 16383]
theorem gossamerref9_four.tab18 : rtab .any (opsOf Tryd.f30 18) = gossamerref9_four.T18 := by kernel_rfl
theorem gossamerref9_four.bits18 : waitsOk gossamerref9_four.T18.2 gossamerref9_four.B18 = true := by kernel_rfl
set_option maxHeartbeats 8000000 in
set_option maxRecDepth 100000 in
theorem gossamerref9_four.calls (k : Nat) (a0 : ByteArray) (r1 : Int) (r2 : Int) (r3 : Bool) (w : World) (h : gossamerref9_four.f k a0 = some (r1, r2, r3)) :
    Calls Tryd.prog 30 #[.string a0] w fun e w' => e = .returned (.tuple #[.int .i64 r1, .int .i64 r2, .bool r3]) ∧ Below w.heap.size w w' := by
  have hu69 := Tryd.underlying69
  have HB := Aside0.mk (Below.refl w.heap.size w)
  have H : ((gossamerref8_Parts.f k a0 46).bind fun t163 => (if (t163.length : Int) = 4 then (gossamerref9_four.l0 k t163 0 0 0 0 0) else (some (0, 0, false)))) = some (r1, r2, r3) := h
  clear h
  replace H := Option.bind_eq_some_iff.mp H
  obtain ⟨t163, A20, H⟩ := H
  replace H : (if (t163.length : Int) = 4 then (gossamerref9_four.l0 k t163 0 0 0 0 0) else (some (0, 0, false))) = some (r1, r2, r3) := H
  have A2 := Aside0.mk A20
  clear A20
  by_cases c3 : (t163.length : Int) = 4
  · rw [if_pos c3] at H
    have c3b0 : ((t163.length : Int) == 4) = true := beq_iff_eq.mpr c3
    have c3b1 : ((t163.length : Int) != 4) = false := bne_eq_false_iff_eq.mpr c3
    clear c3
    have H' := Aside0.mk H
    clear H
    go_enter Tryd.func30, Tryd.ntmps30
    go_wp2_with (first | ((with_reducible refine gate_callee (f := 29) rfl ?_); refine goesL_ (some 10) rfl rfl Tryd.func29 (by kernel_rfl) rfl #[.string a0, .int .u8 46] rfl (by (try simp only [List.map_toArray, List.map_cons, List.map_nil]); first | done | rfl | (simp only [List.length_drop, List.length_take]; rfl)) ?_; (with_reducible refine (gossamerref8_Parts.calls k a0 46 t163 _ A2.out).mono ?_); rintro e w4 ⟨v164, rfl, ho0, hb⟩; refine ⟨_, rfl, ?_⟩; have n0_ := Aside0.mk (Kd.R_lower ho0 (below_size (by repeat (first | (with_reducible first | exact HB.out | apply below_alloc | apply pw_below_drewN | apply below_drew1) | exact HB.out)))); have n1_ := Aside0.mk (below_step (by repeat (first | (with_reducible first | exact HB.out | apply below_alloc | apply pw_below_drewN | apply below_drew1) | exact HB.out)) hb); clear HB; have HO165 := n0_; have HB := n1_; clear n0_ n1_; (try clear hb); (try clear hb2); (try clear hk); (try clear hi); (try clear ho0); obtain ⟨Ao5, co5, eo5⟩ := Kd.R_slice HO165.out; subst eo5) | ((with_reducible refine gate_dst (N := 6) rfl ?_); (try (refine gate_guard (by rfl) ?_; dsimp only)); refine box_event ?hg (N := 6) ?hd (cs := #[.int .i64 0, .int .i64 0, .int .i64 0, .int .i64 0]) (t := 69) ?hr ?_; (case hd => rfl); (case hg => rfl); (case hr => first | (go_simp; done) | (go_simp; rfl)); intro gb166 hg w6 hbox hb; have n0_ := Aside0.mk (Kd.R_below (by (with_reducible repeat (first | apply Kd.R_alloc | apply Kd.R_drewN | apply Kd.R_drew)); exact HO165.out) hb); have n1_ := Aside0.mk (below_step (by repeat (first | (with_reducible first | exact HB.out | apply below_alloc | apply pw_below_drewN | apply below_drew1) | exact HB.out)) hb); have n2_ := Aside0.mk (hbox); have n3_ := Aside0.mk ((by rw [hg]; exact (below_size (by repeat (first | (with_reducible first | exact HB.out | apply below_alloc | apply pw_below_drewN | apply below_drew1) | exact HB.out))) : w.heap.size ≤ gb166)); have n4_ := Aside0.mk ((by rw [hg]; exact (below_size (by repeat (first | (with_reducible first | exact HB.out | apply below_alloc | apply pw_below_drewN | apply below_drew1) | exact HB.out))) : w.heap.size ≤ gb166)); clear HO165; clear HB; have HO165 := n0_; have HB := n1_; have BK166 := n2_; have GW166 := n3_; have GE166 := n4_; clear n0_ n1_ n2_ n3_ n4_; clear hb hbox hg))
    go_loopg [7] k (fun kq v7 w' => ∃ (x7_1 : Int) (x167000_1 : Int) (x167001_1 : Int) (x167002_1 : Int) (x167003_1 : Int), v7 = .int .i64 x7_1 ∧ Aside0 (gossamerref9_four.l0 kq t163 x7_1 x167000_1 x167001_1 x167002_1 x167003_1 = some (r1, r2, r3)) ∧ Aside0 (kq ≤ k) ∧ Aside0 (Kd.R Kd.string 9 w' w.heap.size (fun _ => True) (.slice Ao5 t163.length co5) t163) ∧ Aside0 (w'.heap[gb166]? = some (.cells #[.int .i64 x167000_1, .int .i64 x167001_1, .int .i64 x167002_1, .int .i64 x167003_1] 69 (0, 0))) ∧ Aside0 (Below w.heap.size w w'))
    case atStart => exact ⟨(0), (0), (0), (0), (0), (by first | rfl | (simp; done) | (simp [*]; done)), H', ⟨Nat.le_refl _⟩, ⟨by (with_reducible repeat (first | apply Kd.R_alloc | apply Kd.R_drewN | apply Kd.R_drew)); exact HO165.out⟩, ⟨by (with_reducible repeat (first | refine blk_drewN ?_ _ | refine blk_drew ?_ | refine blk_alloc ?_ _)); exact BK166.out⟩, ⟨by repeat (first | (with_reducible first | exact HB.out | apply below_alloc | apply pw_below_drewN | apply below_drew1 | refine below_set ?_ GE166.out) | exact HB.out)⟩⟩
    case round =>
      clear H'
      try clear c2
      try clear p2
      try clear c3
      try clear c3b0
      try clear c3b1
      obtain ⟨x7_1, x167000_1, x167001_1, x167002_1, x167003_1, rfl, HA, HK1, HO_5, BK166, HB⟩ := hrel
      cases gk with
      | zero => exact absurd HA.out (by simp [gossamerref9_four.l0])
      | succ k1 =>
        have H := HA.out
        clear HA
        simp only [gossamerref9_four.l0] at H
        by_cases c7 : x7_1 < 4
        · rw [if_pos c7] at H
          have c7b0 : decide (x7_1 < 4) = true := decide_eq_true c7
          clear c7
          have HC8 := Aside0.mk H
          clear H
          go_upto_region 8 with (fail)
          go_cut [47] (fun v47 wc => ∃ (kq : Nat) (x47_7 : Bool), v47 = .bool x47_7 ∧ Aside0 (gossamerref9_four.j1 kq t163 x7_1 x47_7 x167000_1 x167001_1 x167002_1 x167003_1 = some (r1, r2, r3)) ∧ Aside0 (kq ≤ k1) ∧ Aside0 (Kd.R Kd.string 9 wc w.heap.size (fun _ => True) (.slice Ao5 t163.length co5) t163) ∧ Aside0 (wc.heap[gb166]? = some (.cells #[.int .i64 x167000_1, .int .i64 x167001_1, .int .i64 x167002_1, .int .i64 x167003_1] 69 (0, 0))) ∧ Aside0 (Below w.heap.size w wc))
          case first =>
            have H := HC8.out
            clear HC8
            by_cases c9 : 0 ≤ x7_1
            · rw [if_pos c9] at H
              have c9b0 : decide (0 ≤ x7_1) = true := decide_eq_true c9
              clear c9
              (first | rw [c9b0] | (simp only [i64_w, i32_w]; rw [c9b0]) | skip)
              by_cases c10 : x7_1 < (t163.length : Int)
              · rw [if_pos c10] at H
                have c10b0 : decide (x7_1 < (t163.length : Int)) = true := decide_eq_true c10
                clear c10
                by_cases c11 : ((rdOf ByteArray.empty t163 x7_1).size : Int) < 1
                · rw [if_pos c11] at H
                  have c11b0 : decide (((rdOf ByteArray.empty t163 x7_1).size : Int) < 1) = true := decide_eq_true c11
                  have c11b1 : decide ((rdOf ByteArray.empty t163 x7_1).size < 1) = true := decide_eq_true (by omega)
                  clear c11
                  have H' := Aside0.mk H
                  clear H
                  have p167 : 0 ≤ (x7_1 : Int) := of_decide_eq_true (by first | (with_reducible assumption) | assumption)
                  have q167 : x7_1 < (t163.length : Int) := of_decide_eq_true (by first | (with_reducible assumption) | assumption)
                  obtain ⟨ad167, e167, hx167_0⟩ := Kd.at_string (Kd.R_reads' HO_5.out).2.2 x7_1 p167 q167
                  cases e167
                  replace p167 := eq_true p167
                  replace q167 := eq_true q167
                  go_wp2
                  go_meet
                  case rel => exact ⟨_, (true), (by first | rfl | (simp; done) | (simp [*]; done)), H', ⟨by have := HK1.out; first | omega | exact Nat.le_refl _⟩, ⟨by (with_reducible repeat (first | apply Kd.R_alloc | apply Kd.R_drewN | apply Kd.R_drew)); exact HO_5.out⟩, ⟨by (with_reducible repeat (first | refine blk_drewN ?_ _ | refine blk_drew ?_ | refine blk_alloc ?_ _)); exact BK166.out⟩, ⟨by repeat (first | (with_reducible first | exact HB.out | apply below_alloc | apply pw_below_drewN | apply below_drew1 | refine below_set ?_ GE166.out) | exact HB.out)⟩⟩
                · rw [if_neg c11] at H
                  have c11b0 : decide (((rdOf ByteArray.empty t163 x7_1).size : Int) < 1) = false := decide_eq_false c11
                  have c11b1 : decide ((rdOf ByteArray.empty t163 x7_1).size < 1) = false := decide_eq_false (by omega)
                  clear c11
                  by_cases c12 : ((rdOf ByteArray.empty t163 x7_1).size : Int) > 3
                  · rw [if_pos c12] at H
                    have c12b0 : decide (3 < ((rdOf ByteArray.empty t163 x7_1).size : Int)) = true := decide_eq_true c12
                    have c12b1 : decide (3 < (rdOf ByteArray.empty t163 x7_1).size) = true := decide_eq_true (by omega)
                    clear c12
                    have H' := Aside0.mk H
                    clear H
                    have p167 : 0 ≤ (x7_1 : Int) := of_decide_eq_true (by first | (with_reducible assumption) | assumption)
                    have q167 : x7_1 < (t163.length : Int) := of_decide_eq_true (by first | (with_reducible assumption) | assumption)
                    obtain ⟨ad167, e167, hx167_0⟩ := Kd.at_string (Kd.R_reads' HO_5.out).2.2 x7_1 p167 q167
                    cases e167
                    replace p167 := eq_true p167
                    replace q167 := eq_true q167
                    have p168 : 0 ≤ (x7_1 : Int) := of_decide_eq_true (by first | (with_reducible assumption) | assumption)
                    have q168 : x7_1 < (t163.length : Int) := of_decide_eq_true (by first | (with_reducible assumption) | assumption)
                    obtain ⟨ad168, e168, hx168_0⟩ := Kd.at_string (Kd.R_reads' HO_5.out).2.2 x7_1 p168 q168
                    obtain rfl : ad167 = ad168 := (by injection e168)
                    replace p168 := eq_true p168
                    replace q168 := eq_true q168
                    go_wp2
                    go_meet
                    case rel => exact ⟨_, (true), (by first | rfl | (simp; done) | (simp [*]; done)), H', ⟨by have := HK1.out; first | omega | exact Nat.le_refl _⟩, ⟨by (with_reducible repeat (first | apply Kd.R_alloc | apply Kd.R_drewN | apply Kd.R_drew)); exact HO_5.out⟩, ⟨by (with_reducible repeat (first | refine blk_drewN ?_ _ | refine blk_drew ?_ | refine blk_alloc ?_ _)); exact BK166.out⟩, ⟨by repeat (first | (with_reducible first | exact HB.out | apply below_alloc | apply pw_below_drewN | apply below_drew1 | refine below_set ?_ GE166.out) | exact HB.out)⟩⟩
                  · rw [if_neg c12] at H
                    have c12b0 : decide (3 < ((rdOf ByteArray.empty t163 x7_1).size : Int)) = false := decide_eq_false c12
                    have c12b1 : decide (3 < (rdOf ByteArray.empty t163 x7_1).size) = false := decide_eq_false (by omega)
                    clear c12
                    by_cases c13 : ((rdOf ByteArray.empty t163 x7_1).size : Int) > 1
                    · rw [if_pos c13] at H
                      have c13b0 : decide (1 < ((rdOf ByteArray.empty t163 x7_1).size : Int)) = true := decide_eq_true c13
                      have c13b1 : decide (1 < (rdOf ByteArray.empty t163 x7_1).size) = true := decide_eq_true (by omega)
                      clear c13
                      by_cases c14 : 0 < ((rdOf ByteArray.empty t163 x7_1).size : Int)
                      · rw [if_pos c14] at H
                        have c14b0 : decide (0 < ((rdOf ByteArray.empty t163 x7_1).size : Int)) = true := decide_eq_true c14
                        have c14b1 : decide (0 < (rdOf ByteArray.empty t163 x7_1).size) = true := decide_eq_true (by omega)
                        clear c14
                        have H' := Aside0.mk H
                        clear H
                        have p167 : 0 ≤ (x7_1 : Int) := of_decide_eq_true (by first | (with_reducible assumption) | assumption)
                        have q167 : x7_1 < (t163.length : Int) := of_decide_eq_true (by first | (with_reducible assumption) | assumption)
                        obtain ⟨ad167, e167, hx167_0⟩ := Kd.at_string (Kd.R_reads' HO_5.out).2.2 x7_1 p167 q167
                        cases e167
                        replace p167 := eq_true p167
                        replace q167 := eq_true q167
                        have p168 : 0 ≤ (x7_1 : Int) := of_decide_eq_true (by first | (with_reducible assumption) | assumption)
                        have q168 : x7_1 < (t163.length : Int) := of_decide_eq_true (by first | (with_reducible assumption) | assumption)
                        obtain ⟨ad168, e168, hx168_0⟩ := Kd.at_string (Kd.R_reads' HO_5.out).2.2 x7_1 p168 q168
                        obtain rfl : ad167 = ad168 := (by injection e168)
                        replace p168 := eq_true p168
                        replace q168 := eq_true q168
                        have p169 : 0 ≤ (x7_1 : Int) := of_decide_eq_true (by first | (with_reducible assumption) | assumption)
                        have q169 : x7_1 < (t163.length : Int) := of_decide_eq_true (by first | (with_reducible assumption) | assumption)
                        obtain ⟨ad169, e169, hx169_0⟩ := Kd.at_string (Kd.R_reads' HO_5.out).2.2 x7_1 p169 q169
                        obtain rfl : ad167 = ad169 := (by injection e169)
                        replace p169 := eq_true p169
                        replace q169 := eq_true q169
                        have p170 : 0 ≤ (x7_1 : Int) := of_decide_eq_true (by first | (with_reducible assumption) | assumption)
                        have q170 : x7_1 < (t163.length : Int) := of_decide_eq_true (by first | (with_reducible assumption) | assumption)
                        obtain ⟨ad170, e170, hx170_0⟩ := Kd.at_string (Kd.R_reads' HO_5.out).2.2 x7_1 p170 q170
                        obtain rfl : ad167 = ad170 := (by injection e170)
                        replace p170 := eq_true p170
                        replace q170 := eq_true q170
                        have p15 : 0 ≤ (0 : Int) := (by omega)
                        have q15 : 0 < (rdOf ByteArray.empty t163 x7_1).size := (by have : (0 : Int) < ((rdOf ByteArray.empty t163 x7_1).size : Int) := of_decide_eq_true (by first | (with_reducible assumption) | assumption); omega)
                        have hx15 : ∀ h : 0 < (rdOf ByteArray.empty t163 x7_1).size, (((rdOf ByteArray.empty t163 x7_1)[0]'h).toNat : Int) = bt (rdOf ByteArray.empty t163 x7_1) 0 := bt_at (rdOf ByteArray.empty t163 x7_1) 0
                        clear p15
                        have qi15 : (0 < ((rdOf ByteArray.empty t163 x7_1).size : Int)) = True := eq_true (of_decide_eq_true (by first | (with_reducible assumption) | assumption))
                        replace q15 := eq_true q15
                        go_wp2
                        go_meet
                        case rel => exact ⟨_, (((bt (rdOf ByteArray.empty t163 x7_1) 0) == 48)), (by first | rfl | (simp; done) | (simp [*]; done)), H', ⟨by have := HK1.out; first | omega | exact Nat.le_refl _⟩, ⟨by (with_reducible repeat (first | apply Kd.R_alloc | apply Kd.R_drewN | apply Kd.R_drew)); exact HO_5.out⟩, ⟨by (with_reducible repeat (first | refine blk_drewN ?_ _ | refine blk_drew ?_ | refine blk_alloc ?_ _)); exact BK166.out⟩, ⟨by repeat (first | (with_reducible first | exact HB.out | apply below_alloc | apply pw_below_drewN | apply below_drew1 | refine below_set ?_ GE166.out) | exact HB.out)⟩⟩
                      · rw [if_neg c14] at H
                        exact absurd H (by simp)
                    · rw [if_neg c13] at H
                      have c13b0 : decide (1 < ((rdOf ByteArray.empty t163 x7_1).size : Int)) = false := decide_eq_false c13
                      have c13b1 : decide (1 < (rdOf ByteArray.empty t163 x7_1).size) = false := decide_eq_false (by omega)
                      clear c13
                      have H' := Aside0.mk H
                      clear H
                      have p167 : 0 ≤ (x7_1 : Int) := of_decide_eq_true (by first | (with_reducible assumption) | assumption)
                      have q167 : x7_1 < (t163.length : Int) := of_decide_eq_true (by first | (with_reducible assumption) | assumption)
                      obtain ⟨ad167, e167, hx167_0⟩ := Kd.at_string (Kd.R_reads' HO_5.out).2.2 x7_1 p167 q167
                      cases e167
                      replace p167 := eq_true p167
                      replace q167 := eq_true q167
                      have p168 : 0 ≤ (x7_1 : Int) := of_decide_eq_true (by first | (with_reducible assumption) | assumption)
                      have q168 : x7_1 < (t163.length : Int) := of_decide_eq_true (by first | (with_reducible assumption) | assumption)
                      obtain ⟨ad168, e168, hx168_0⟩ := Kd.at_string (Kd.R_reads' HO_5.out).2.2 x7_1 p168 q168
                      obtain rfl : ad167 = ad168 := (by injection e168)
                      replace p168 := eq_true p168
                      replace q168 := eq_true q168
                      have p169 : 0 ≤ (x7_1 : Int) := of_decide_eq_true (by first | (with_reducible assumption) | assumption)
                      have q169 : x7_1 < (t163.length : Int) := of_decide_eq_true (by first | (with_reducible assumption) | assumption)
                      obtain ⟨ad169, e169, hx169_0⟩ := Kd.at_string (Kd.R_reads' HO_5.out).2.2 x7_1 p169 q169
                      obtain rfl : ad167 = ad169 := (by injection e169)
                      replace p169 := eq_true p169
                      replace q169 := eq_true q169
                      go_wp2
                      go_meet
                      case rel => exact ⟨_, (false), (by first | rfl | (simp; done) | (simp [*]; done)), H', ⟨by have := HK1.out; first | omega | exact Nat.le_refl _⟩, ⟨by (with_reducible repeat (first | apply Kd.R_alloc | apply Kd.R_drewN | apply Kd.R_drew)); exact HO_5.out⟩, ⟨by (with_reducible repeat (first | refine blk_drewN ?_ _ | refine blk_drew ?_ | refine blk_alloc ?_ _)); exact BK166.out⟩, ⟨by repeat (first | (with_reducible first | exact HB.out | apply below_alloc | apply pw_below_drewN | apply below_drew1 | refine below_set ?_ GE166.out) | exact HB.out)⟩⟩
              · rw [if_neg c10] at H
                exact absurd H (by simp)
            · rw [if_neg c9] at H
              exact absurd H (by simp)
          case rest =>
            clear HC8
            try clear c1
            try clear p1
            try clear q1
            try clear hx1
            try clear qi1
            try clear c2
            try clear p2
            try clear c3
            try clear c3b0
            try clear c3b1
            try clear c7
            try clear c7b0
            try clear c9
            try clear c9b0
            try clear c10
            try clear c10b0
            try clear c11
            try clear c11b0
            try clear c11b1
            try clear c12
            try clear c12b0
            try clear c12b1
            try clear c13
            try clear c13b0
            try clear c13b1
            try clear c14
            try clear c14b0
            try clear c14b1
            try clear p15
            try clear q15
            try clear hx15
            try clear qi15
            try clear hx167_0
            try clear hx168_0
            try clear hx169_0
            try clear hx170_0
            try clear p15
            try clear p167
            try clear p168
            try clear p169
            try clear p170
            try clear p2
            try clear q15
            try clear q167
            try clear q168
            try clear q169
            try clear q170
            obtain ⟨kq, x47_7, rfl, HA, HJ7, HO_5, BK166, HB⟩ := hcut
            cases kq with
            | zero => exact absurd HA.out (by simp [gossamerref9_four.j1])
            | succ kj7 =>
              have H := HA.out
              clear HA
              simp only [gossamerref9_four.j1] at H
              by_cases c16 : x47_7 = true
              · subst c16
                have H1 : (some (0, 0, false)) = some (r1, r2, r3) := by rw [if_pos rfl] at H; exact H
                clear H
                have H := H1
                clear H1
                simp only [Option.some.injEq, Prod.mk.injEq] at H
                obtain ⟨rfl, rfl, rfl⟩ := H
                go_wp2
                go_ret3
                exact ⟨by first | rfl | (simp [errW_none, errW_some] <;> rfl) | (simp [*, errW_none, errW_some] <;> rfl), by repeat (first | (with_reducible first | exact HB.out | apply below_alloc | apply pw_below_drewN | apply below_drew1 | refine below_set ?_ GE166.out) | exact HB.out)⟩
              · replace c16 := Bool.eq_false_iff.mpr c16
                subst c16
                have H1 : (gossamerref9_four.l1 kj7 t163 x7_1 0 x167000_1 x167001_1 x167002_1 x167003_1) = some (r1, r2, r3) := by rw [if_neg (show ¬ (false = true) by decide)] at H; exact H
                clear H
                have H := H1
                clear H1
                have H' := Aside0.mk H
                clear H
                go_wp2
                go_loopg [8] kj7 (fun kq v8 w' => ∃ (x8_3 : Int) (x167000_3 : Int) (x167001_3 : Int) (x167002_3 : Int) (x167003_3 : Int), v8 = .int .i64 x8_3 ∧ Aside0 (gossamerref9_four.l1 kq t163 x7_1 x8_3 x167000_3 x167001_3 x167002_3 x167003_3 = some (r1, r2, r3)) ∧ Aside0 (kq ≤ kj7) ∧ Aside0 (Kd.R Kd.string 9 w' w.heap.size (fun _ => True) (.slice Ao5 t163.length co5) t163) ∧ Aside0 (w'.heap[gb166]? = some (.cells #[.int .i64 x167000_3, .int .i64 x167001_3, .int .i64 x167002_3, .int .i64 x167003_3] 69 (0, 0))) ∧ Aside0 (Below w.heap.size w w'))
                case atStart => exact ⟨(0), (x167000_1), (x167001_1), (x167002_1), (x167003_1), (by first | rfl | (simp; done) | (simp [*]; done)), H', ⟨Nat.le_refl _⟩, ⟨by (with_reducible repeat (first | apply Kd.R_alloc | apply Kd.R_drewN | apply Kd.R_drew)); exact HO_5.out⟩, ⟨by (with_reducible repeat (first | refine blk_drewN ?_ _ | refine blk_drew ?_ | refine blk_alloc ?_ _)); exact BK166.out⟩, ⟨by repeat (first | (with_reducible first | exact HB.out | apply below_alloc | apply pw_below_drewN | apply below_drew1 | refine below_set ?_ GE166.out) | exact HB.out)⟩⟩
                case round =>
                  clear H'
                  try clear c1
                  try clear p1
                  try clear q1
                  try clear hx1
                  try clear qi1
                  try clear c2
                  try clear p2
                  try clear c3
                  try clear c3b0
                  try clear c3b1
                  try clear c7
                  try clear c7b0
                  try clear c9
                  try clear c9b0
                  try clear c10
                  try clear c10b0
                  try clear c11
                  try clear c11b0
                  try clear c11b1
                  try clear c12
                  try clear c12b0
                  try clear c12b1
                  try clear c13
                  try clear c13b0
                  try clear c13b1
                  try clear c14
                  try clear c14b0
                  try clear c14b1
                  try clear p15
                  try clear q15
                  try clear hx15
                  try clear qi15
                  try clear c16
                  try clear p16
                  try clear q16
                  try clear hx16
                  try clear hx167_0
                  try clear hx168_0
                  try clear hx169_0
                  try clear hx170_0
                  try clear p1
                  try clear p15
                  try clear p167
                  try clear p168
                  try clear p169
                  try clear p170
                  try clear p2
                  try clear q1
                  try clear q15
                  try clear q167
                  try clear q168
                  try clear q169
                  try clear q170
                  obtain ⟨x8_3, x167000_3, x167001_3, x167002_3, x167003_3, rfl, HA, HK3, HO_5, BK166, HB⟩ := hrel
                  cases gk with
                  | zero => exact absurd HA.out (by simp [gossamerref9_four.l1])
                  | succ k3 =>
                    have H := HA.out
                    clear HA
                    simp only [gossamerref9_four.l1] at H
                    by_cases c17 : 0 ≤ x7_1
                    · rw [if_pos c17] at H
                      have c17b0 : decide (0 ≤ x7_1) = true := decide_eq_true c17
                      clear c17
                      by_cases c18 : x7_1 < (t163.length : Int)
                      · rw [if_pos c18] at H
                        have c18b0 : decide (x7_1 < (t163.length : Int)) = true := decide_eq_true c18
                        clear c18
                        by_cases c19 : x8_3 < ((rdOf ByteArray.empty t163 x7_1).size : Int)
                        · rw [if_pos c19] at H
                          have c19b0 : decide (x8_3 < ((rdOf ByteArray.empty t163 x7_1).size : Int)) = true := decide_eq_true c19
                          clear c19
                          by_cases c20 : 0 ≤ x8_3
                          · rw [if_pos c20] at H
                            have c20b0 : decide (0 ≤ x8_3) = true := decide_eq_true c20
                            clear c20
                            by_cases c22 : (bt (rdOf ByteArray.empty t163 x7_1) x8_3) < 48
                            · rw [if_pos c22] at H
                              have c22b0 : decide ((bt (rdOf ByteArray.empty t163 x7_1) x8_3) < 48) = true := decide_eq_true c22
                              clear c22
                              simp only [Option.some.injEq, Prod.mk.injEq] at H
                              obtain ⟨rfl, rfl, rfl⟩ := H
                              have p171 : 0 ≤ (x7_1 : Int) := of_decide_eq_true (by first | (with_reducible assumption) | assumption)
                              have q171 : x7_1 < (t163.length : Int) := of_decide_eq_true (by first | (with_reducible assumption) | assumption)
                              obtain ⟨ad171, e171, hx171_0⟩ := Kd.at_string (Kd.R_reads' HO_5.out).2.2 x7_1 p171 q171
                              cases e171
                              replace p171 := eq_true p171
                              replace q171 := eq_true q171
                              have p172 : 0 ≤ (x7_1 : Int) := of_decide_eq_true (by first | (with_reducible assumption) | assumption)
                              have q172 : x7_1 < (t163.length : Int) := of_decide_eq_true (by first | (with_reducible assumption) | assumption)
                              obtain ⟨ad172, e172, hx172_0⟩ := Kd.at_string (Kd.R_reads' HO_5.out).2.2 x7_1 p172 q172
                              obtain rfl : ad171 = ad172 := (by injection e172)
                              replace p172 := eq_true p172
                              replace q172 := eq_true q172
                              have p21 : 0 ≤ (x8_3 : Int) := of_decide_eq_true (by first | (with_reducible assumption) | assumption)
                              have q21 : x8_3 < ((rdOf ByteArray.empty t163 x7_1).size : Int) := of_decide_eq_true (by first | (with_reducible assumption) | assumption)
                              have hx21 := bt_at (rdOf ByteArray.empty t163 x7_1) x8_3
                              replace p21 := eq_true p21
                              replace q21 := eq_true q21
                              go_wp2
                              go_ret3
                              exact ⟨by first | rfl | (simp [errW_none, errW_some] <;> rfl) | (simp [*, errW_none, errW_some] <;> rfl), by repeat (first | (with_reducible first | exact HB.out | apply below_alloc | apply pw_below_drewN | apply below_drew1 | refine below_set ?_ GE166.out) | exact HB.out)⟩
                            · rw [if_neg c22] at H
                              have c22b0 : decide ((bt (rdOf ByteArray.empty t163 x7_1) x8_3) < 48) = false := decide_eq_false c22
                              clear c22
                              by_cases c24 : (bt (rdOf ByteArray.empty t163 x7_1) x8_3) > 57
                              · rw [if_pos c24] at H
                                have c24b0 : decide (57 < (bt (rdOf ByteArray.empty t163 x7_1) x8_3)) = true := decide_eq_true c24
                                clear c24
                                simp only [Option.some.injEq, Prod.mk.injEq] at H
                                obtain ⟨rfl, rfl, rfl⟩ := H
                                have p171 : 0 ≤ (x7_1 : Int) := of_decide_eq_true (by first | (with_reducible assumption) | assumption)
                                have q171 : x7_1 < (t163.length : Int) := of_decide_eq_true (by first | (with_reducible assumption) | assumption)
                                obtain ⟨ad171, e171, hx171_0⟩ := Kd.at_string (Kd.R_reads' HO_5.out).2.2 x7_1 p171 q171
                                cases e171
                                replace p171 := eq_true p171
                                replace q171 := eq_true q171
                                have p172 : 0 ≤ (x7_1 : Int) := of_decide_eq_true (by first | (with_reducible assumption) | assumption)
                                have q172 : x7_1 < (t163.length : Int) := of_decide_eq_true (by first | (with_reducible assumption) | assumption)
                                obtain ⟨ad172, e172, hx172_0⟩ := Kd.at_string (Kd.R_reads' HO_5.out).2.2 x7_1 p172 q172
                                obtain rfl : ad171 = ad172 := (by injection e172)
                                replace p172 := eq_true p172
                                replace q172 := eq_true q172
                                have p21 : 0 ≤ (x8_3 : Int) := of_decide_eq_true (by first | (with_reducible assumption) | assumption)
                                have q21 : x8_3 < ((rdOf ByteArray.empty t163 x7_1).size : Int) := of_decide_eq_true (by first | (with_reducible assumption) | assumption)
                                have hx21 := bt_at (rdOf ByteArray.empty t163 x7_1) x8_3
                                replace p21 := eq_true p21
                                replace q21 := eq_true q21
                                have p173 : 0 ≤ (x7_1 : Int) := of_decide_eq_true (by first | (with_reducible assumption) | assumption)
                                have q173 : x7_1 < (t163.length : Int) := of_decide_eq_true (by first | (with_reducible assumption) | assumption)
                                obtain ⟨ad173, e173, hx173_0⟩ := Kd.at_string (Kd.R_reads' HO_5.out).2.2 x7_1 p173 q173
                                obtain rfl : ad171 = ad173 := (by injection e173)
                                replace p173 := eq_true p173
                                replace q173 := eq_true q173
                                have p23 : 0 ≤ (x8_3 : Int) := of_decide_eq_true (by first | (with_reducible assumption) | assumption)
                                have q23 : x8_3 < ((rdOf ByteArray.empty t163 x7_1).size : Int) := of_decide_eq_true (by first | (with_reducible assumption) | assumption)
                                have hx23 := bt_at (rdOf ByteArray.empty t163 x7_1) x8_3
                                replace p23 := eq_true p23
                                replace q23 := eq_true q23
                                go_wp2
                                go_ret3
                                exact ⟨by first | rfl | (simp [errW_none, errW_some] <;> rfl) | (simp [*, errW_none, errW_some] <;> rfl), by repeat (first | (with_reducible first | exact HB.out | apply below_alloc | apply pw_below_drewN | apply below_drew1 | refine below_set ?_ GE166.out) | exact HB.out)⟩
                              · rw [if_neg c24] at H
                                have c24b0 : decide (57 < (bt (rdOf ByteArray.empty t163 x7_1) x8_3)) = false := decide_eq_false c24
                                clear c24
                                by_cases c25 : x7_1 < 4
                                · rw [if_pos c25] at H
                                  have c25b0 : decide (x7_1 < 4) = true := decide_eq_true c25
                                  clear c25
                                  have H' := Aside0.mk H
                                  clear H
                                  have p171 : 0 ≤ (x7_1 : Int) := of_decide_eq_true (by first | (with_reducible assumption) | assumption)
                                  have q171 : x7_1 < (t163.length : Int) := of_decide_eq_true (by first | (with_reducible assumption) | assumption)
                                  obtain ⟨ad171, e171, hx171_0⟩ := Kd.at_string (Kd.R_reads' HO_5.out).2.2 x7_1 p171 q171
                                  cases e171
                                  replace p171 := eq_true p171
                                  replace q171 := eq_true q171
                                  have p172 : 0 ≤ (x7_1 : Int) := of_decide_eq_true (by first | (with_reducible assumption) | assumption)
                                  have q172 : x7_1 < (t163.length : Int) := of_decide_eq_true (by first | (with_reducible assumption) | assumption)
                                  obtain ⟨ad172, e172, hx172_0⟩ := Kd.at_string (Kd.R_reads' HO_5.out).2.2 x7_1 p172 q172
                                  obtain rfl : ad171 = ad172 := (by injection e172)
                                  replace p172 := eq_true p172
                                  replace q172 := eq_true q172
                                  have p21 : 0 ≤ (x8_3 : Int) := of_decide_eq_true (by first | (with_reducible assumption) | assumption)
                                  have q21 : x8_3 < ((rdOf ByteArray.empty t163 x7_1).size : Int) := of_decide_eq_true (by first | (with_reducible assumption) | assumption)
                                  have hx21 := bt_at (rdOf ByteArray.empty t163 x7_1) x8_3
                                  replace p21 := eq_true p21
                                  replace q21 := eq_true q21
                                  have p173 : 0 ≤ (x7_1 : Int) := of_decide_eq_true (by first | (with_reducible assumption) | assumption)
                                  have q173 : x7_1 < (t163.length : Int) := of_decide_eq_true (by first | (with_reducible assumption) | assumption)
                                  obtain ⟨ad173, e173, hx173_0⟩ := Kd.at_string (Kd.R_reads' HO_5.out).2.2 x7_1 p173 q173
                                  obtain rfl : ad171 = ad173 := (by injection e173)
                                  replace p173 := eq_true p173
                                  replace q173 := eq_true q173
                                  have p23 : 0 ≤ (x8_3 : Int) := of_decide_eq_true (by first | (with_reducible assumption) | assumption)
                                  have q23 : x8_3 < ((rdOf ByteArray.empty t163 x7_1).size : Int) := of_decide_eq_true (by first | (with_reducible assumption) | assumption)
                                  have hx23 := bt_at (rdOf ByteArray.empty t163 x7_1) x8_3
                                  replace p23 := eq_true p23
                                  replace q23 := eq_true q23
                                  try go_wp2
                                  have n0_ := Aside0.mk (Kd.R_drew HO_5.out)
                                  have n1_ := Aside0.mk (blk_drew BK166.out)
                                  have n2_ := Aside0.mk (below_drew1 HB.out)
                                  clear HO_5
                                  clear BK166
                                  clear HB
                                  have HO_5 := n0_
                                  have BK166 := n1_
                                  have HB := n2_
                                  clear n0_ n1_ n2_
                                  have p26 : 0 ≤ (x7_1 : Int) := of_decide_eq_true (by first | (with_reducible assumption) | assumption)
                                  have q26 : (x7_1 : Int) < (4 : Int) := of_decide_eq_true (by first | (with_reducible assumption) | assumption)
                                  replace p26 := eq_true p26
                                  replace q26 := eq_true q26
                                  have p27 : 0 ≤ (x7_1 : Int) := of_decide_eq_true (by first | (with_reducible assumption) | assumption)
                                  have q27 : (x7_1 : Int) < (4 : Int) := of_decide_eq_true (by first | (with_reducible assumption) | assumption)
                                  replace p27 := eq_true p27
                                  replace q27 := eq_true q27
                                  have p174 : 0 ≤ (x7_1 : Int) := of_decide_eq_true (by first | (with_reducible assumption) | assumption)
                                  have q174 : x7_1 < (t163.length : Int) := of_decide_eq_true (by first | (with_reducible assumption) | assumption)
                                  obtain ⟨ad174, e174, hx174_0⟩ := Kd.at_string (Kd.R_reads' HO_5.out).2.2 x7_1 p174 q174
                                  obtain rfl : ad171 = ad174 := (by injection e174)
                                  replace p174 := eq_true p174
                                  replace q174 := eq_true q174
                                  have p28 : 0 ≤ (x8_3 : Int) := of_decide_eq_true (by first | (with_reducible assumption) | assumption)
                                  have q28 : x8_3 < ((rdOf ByteArray.empty t163 x7_1).size : Int) := of_decide_eq_true (by first | (with_reducible assumption) | assumption)
                                  have hx28 := bt_at (rdOf ByteArray.empty t163 x7_1) x8_3
                                  replace p28 := eq_true p28
                                  replace q28 := eq_true q28
                                  have p29 : 0 ≤ (x7_1 : Int) := of_decide_eq_true (by first | (with_reducible assumption) | assumption)
                                  have q29 : (x7_1 : Int) < (4 : Int) := of_decide_eq_true (by first | (with_reducible assumption) | assumption)
                                  replace p29 := eq_true p29
                                  replace q29 := eq_true q29
                                  have p30 : 0 ≤ (x7_1 : Int) := of_decide_eq_true (by first | (with_reducible assumption) | assumption)
                                  have q30 : (x7_1 : Int) < (4 : Int) := of_decide_eq_true (by first | (with_reducible assumption) | assumption)
                                  replace p30 := eq_true p30
                                  replace q30 := eq_true q30
                                  refine start_ (n := 16) (S := fun w' => w'.cell? ⟨gb166, 0, none⟩ = some (.int .i64 x167000_3) ∧ w'.cell? ⟨gb166, 1, none⟩ = some (.int .i64 x167001_3) ∧ w'.cell? ⟨gb166, 2, none⟩ = some (.int .i64 x167002_3) ∧ w'.cell? ⟨gb166, 3, none⟩ = some (.int .i64 x167003_3) ∧ w'.cell? ⟨gb166, (x7_1 : Int).toNat, none⟩ = some (.int .i64 (rd ([x167000_3, x167001_3, x167002_3, x167003_3] : List Int) x7_1)) ∧ w'.cell? (ad171.add (x7_1).toNat) = some (.string (rdOf ByteArray.empty t163 x7_1))) (ds := [15]) #[false, false, false, false, false, false, false, false, false, false, false, false, false, false, false, false] (by kernel_rfl) rfl rfl ⟨(blk_cell BK166.out 0).trans rfl, (blk_cell BK166.out 1).trans rfl, (blk_cell BK166.out 2).trans rfl, (blk_cell BK166.out 3).trans rfl, arr_cell (Value.int .i64) 0 (xs := ([x167000_3, x167001_3, x167002_3, x167003_3] : List Int)) BK166.out (x7_1) (of_eq_true p27) (of_eq_true q27), hx174_0⟩ (fun hHeld => ?_); refine with_tabW gossamerref9_four.tab15 gossamerref9_four.bits15 (fun HT_ HW_ => ?_)
                                  generalize wr.drew = w31 at HO_5 BK166 HB hx174_0 hHeld ⊢
                                  refine pure_ (i := 0) (N := some 73) (v := ?_) (a' := ?_) #[true, false, false, false, false, false, false, false, false, false, false, false, false, false, false, false] rfl rfl (any_of HT_.out (by kernel_rfl)) (fun _ _ _ h => h) (Or.inl ⟨by rfl, ?_⟩) ?_ ?_
                                  rotate_left
                                  · intro w'
                                    go_simp
                                    with_reducible rfl
                                  rotate_left
                                  · simp only [Act.put, List.setIfInBounds_toArray, List.set_cons_zero, List.set_cons_succ, i64_w, i32_w]
                                    rfl
                                  refine pure_ (i := 1) (N := some 74) (v := ?_) (a' := ?_) #[true, true, false, false, false, false, false, false, false, false, false, false, false, false, false, false] rfl rfl (any_of HT_.out (by kernel_rfl)) (fun _ _ _ h => h) (Or.inl ⟨by rfl, ?_⟩) ?_ ?_
                                  rotate_left
                                  · intro w'
                                    go_simp
                                    with_reducible rfl
                                  rotate_left
                                  · simp only [Act.put, List.setIfInBounds_toArray, List.set_cons_zero, List.set_cons_succ, i64_w, i32_w]
                                    rfl
                                  refine pure_ (i := 2) (N := some 75) (v := ?_) (a' := ?_) #[true, true, true, false, false, false, false, false, false, false, false, false, false, false, false, false] rfl rfl (any_of HT_.out (by kernel_rfl)) (fun _ _ _ h => h) (Or.inl ⟨by rfl, ?_⟩) ?_ ?_
                                  rotate_left
                                  · intro w'
                                    go_simp
                                    with_reducible rfl
                                  rotate_left
                                  · simp only [Act.put, List.setIfInBounds_toArray, List.set_cons_zero, List.set_cons_succ, i64_w, i32_w]
                                    rfl
                                  refine pure_ (i := 5) (N := some 78) (v := ?_) (a' := ?_) #[true, true, true, false, false, true, false, false, false, false, false, false, false, false, false, false] rfl rfl (any_of HT_.out (by kernel_rfl)) (fun _ _ _ h => h) (Or.inl ⟨by rfl, ?_⟩) ?_ ?_
                                  rotate_left
                                  · intro w'
                                    go_simp
                                    with_reducible rfl
                                  rotate_left
                                  · simp only [Act.put, List.setIfInBounds_toArray, List.set_cons_zero, List.set_cons_succ, i64_w, i32_w]
                                    rfl
                                  refine pure_ (i := 6) (N := some 79) (v := ?_) (a' := ?_) #[true, true, true, false, false, true, true, false, false, false, false, false, false, false, false, false] rfl rfl (any_of HT_.out (by kernel_rfl)) (fun _ _ _ h => h) (Or.inl ⟨by rfl, ?_⟩) ?_ ?_
                                  rotate_left
                                  · intro w'
                                    go_simp
                                    with_reducible rfl
                                  rotate_left
                                  · simp only [Act.put, List.setIfInBounds_toArray, List.set_cons_zero, List.set_cons_succ, i64_w, i32_w]
                                    rfl
                                  refine pure_ (i := 7) (N := some 80) (v := ?_) (a' := ?_) #[true, true, true, false, false, true, true, true, false, false, false, false, false, false, false, false] rfl rfl (any_of HT_.out (by kernel_rfl)) (fun _ _ _ h => h) (Or.inl ⟨by rfl, ?_⟩) ?_ ?_
                                  rotate_left
                                  · intro w'
                                    go_simp
                                    with_reducible rfl
                                  rotate_left
                                  · simp only [Act.put, List.setIfInBounds_toArray, List.set_cons_zero, List.set_cons_succ, i64_w, i32_w]
                                    rfl
                                  refine pure_ (i := 9) (N := some 82) (v := ?_) (a' := ?_) #[true, true, true, false, false, true, true, true, false, true, false, false, false, false, false, false] rfl rfl (any_of HT_.out (by kernel_rfl)) (fun _ _ _ h => h) (Or.inl ⟨by rfl, ?_⟩) ?_ ?_
                                  rotate_left
                                  · intro w'
                                    go_simp
                                    with_reducible rfl
                                  rotate_left
                                  · simp only [Act.put, List.setIfInBounds_toArray, List.set_cons_zero, List.set_cons_succ, i64_w, i32_w]
                                    rfl
                                  refine take_ (i := 3) (N := some 76) (v := ?_) (a' := ?_) #[true, true, true, true, false, true, true, true, false, true, false, false, false, false, false, false] rfl rfl (take_ofW HT_.out HW_.out (by kernel_rfl)) (fun _ _ _ h => h) (Or.inl ⟨by rfl, ?_⟩) hHeld ?_ ?_
                                  rotate_left
                                  · rintro w' ⟨s0, s1, s2, s3, s4, s5⟩
                                    go_simp
                                    with_reducible rfl
                                  rotate_left
                                  · simp only [Act.put, List.setIfInBounds_toArray, List.set_cons_zero, List.set_cons_succ, i64_w, i32_w]
                                    rfl
                                  refine pure_ (i := 4) (N := some 77) (v := ?_) (a' := ?_) #[true, true, true, true, true, true, true, true, false, true, false, false, false, false, false, false] rfl rfl (any_of HT_.out (by kernel_rfl)) (fun _ _ _ h => h) (Or.inl ⟨by rfl, ?_⟩) ?_ ?_
                                  rotate_left
                                  · intro w'
                                    go_simp
                                    with_reducible rfl
                                  rotate_left
                                  · simp only [Act.put, List.setIfInBounds_toArray, List.set_cons_zero, List.set_cons_succ, i64_w, i32_w]
                                    rfl
                                  refine take_ (i := 8) (N := some 81) (v := ?_) (a' := ?_) #[true, true, true, true, true, true, true, true, true, true, false, false, false, false, false, false] rfl rfl (take_ofW HT_.out HW_.out (by kernel_rfl)) (fun _ _ _ h => h) (Or.inl ⟨by rfl, ?_⟩) hHeld ?_ ?_
                                  rotate_left
                                  · rintro w' ⟨s0, s1, s2, s3, s4, s5⟩
                                    go_simp
                                    with_reducible rfl
                                  rotate_left
                                  · simp only [Act.put, List.setIfInBounds_toArray, List.set_cons_zero, List.set_cons_succ, i64_w, i32_w]
                                    rfl
                                  refine take_ (i := 10) (N := some 83) (v := ?_) (a' := ?_) #[true, true, true, true, true, true, true, true, true, true, true, false, false, false, false, false] rfl rfl (take_ofW HT_.out HW_.out (by kernel_rfl)) (fun _ _ _ h => h) (Or.inl ⟨by rfl, ?_⟩) hHeld ?_ ?_
                                  rotate_left
                                  · rintro w' ⟨s0, s1, s2, s3, s4, s5⟩
                                    go_simp
                                    with_reducible rfl
                                  rotate_left
                                  · simp only [Act.put, List.setIfInBounds_toArray, List.set_cons_zero, List.set_cons_succ, i64_w, i32_w]
                                    rfl
                                  refine pure_ (i := 11) (N := some 84) (v := ?_) (a' := ?_) #[true, true, true, true, true, true, true, true, true, true, true, true, false, false, false, false] rfl rfl (any_of HT_.out (by kernel_rfl)) (fun _ _ _ h => h) (Or.inl ⟨by rfl, ?_⟩) ?_ ?_
                                  rotate_left
                                  · intro w'
                                    go_simp
                                    with_reducible rfl
                                  rotate_left
                                  · simp only [Act.put, List.setIfInBounds_toArray, List.set_cons_zero, List.set_cons_succ, i64_w, i32_w]
                                    rfl
                                  refine pure_ (i := 12) (N := some 85) (v := ?_) (a' := ?_) #[true, true, true, true, true, true, true, true, true, true, true, true, true, false, false, false] rfl rfl (any_of HT_.out (by kernel_rfl)) (fun _ _ _ h => h) (Or.inl ⟨by rfl, ?_⟩) ?_ ?_
                                  rotate_left
                                  · intro w'
                                    go_simp
                                    with_reducible rfl
                                  rotate_left
                                  · simp only [Act.put, List.setIfInBounds_toArray, List.set_cons_zero, List.set_cons_succ, i64_w, i32_w]
                                    rfl
                                  refine pure_ (i := 13) (N := some 86) (v := ?_) (a' := ?_) #[true, true, true, true, true, true, true, true, true, true, true, true, true, true, false, false] rfl rfl (any_of HT_.out (by kernel_rfl)) (fun _ _ _ h => h) (Or.inl ⟨by rfl, ?_⟩) ?_ ?_
                                  rotate_left
                                  · intro w'
                                    go_simp
                                    with_reducible rfl
                                  rotate_left
                                  · simp only [Act.put, List.setIfInBounds_toArray, List.set_cons_zero, List.set_cons_succ, i64_w, i32_w]
                                    rfl
                                  refine pure_ (i := 14) (N := some 87) (v := ?_) (a' := ?_) #[true, true, true, true, true, true, true, true, true, true, true, true, true, true, true, false] rfl rfl (any_of HT_.out (by kernel_rfl)) (fun _ _ _ h => h) (Or.inl ⟨by rfl, ?_⟩) ?_ ?_
                                  rotate_left
                                  · intro w'
                                    go_simp
                                    with_reducible rfl
                                  rotate_left
                                  · simp only [Act.put, List.setIfInBounds_toArray, List.set_cons_zero, List.set_cons_succ, i64_w, i32_w]
                                    rfl
                                  refine last_ (i := 15) (N := none) #[true, true, true, true, true, true, true, true, true, true, true, true, true, true, true, true] rfl rfl (one_of HT_.out (by kernel_rfl)) (by decide) (fun K hK => ?_)
                                  have h30 : w31.cell? ⟨gb166, (x7_1 : Int).toNat, none⟩ = some (.int .i64 (rd ([x167000_3, x167001_3, x167002_3, x167003_3] : List Int) x7_1)) := arr_cell (Value.int .i64) 0 (xs := ([x167000_3, x167001_3, x167002_3, x167003_3] : List Int)) BK166.out (x7_1) (of_eq_true p30) (of_eq_true q30)
                                  have hf30 := blk_frozen BK166.out (x7_1 : Int).toNat
                                  refine skip_ (w1 := ?_) (by rfl) rfl ?_ ?_
                                  rotate_left
                                  · go_simp
                                    rfl
                                  refine hK.out _ _ ?_
                                  clear hK K
                                  refine done_ (done_of HT_.out (by kernel_rfl)) ?_
                                  try go_wp2
                                  go_roundg k3
                                  case measure => have := HK1.out; have := HJ7.out; have := HK3.out; omega
                                  case rel => exact ⟨(wrap64 (x8_3 + 1)), ((if x7_1 = 0 then wrap64 ((wrap64 ((rd ([x167000_3, x167001_3, x167002_3, x167003_3] : List Int) x7_1) * 10)) + (wrap64 (((bt (rdOf ByteArray.empty t163 x7_1) x8_3) - 48) % 256))) else x167000_3)), ((if x7_1 = 1 then wrap64 ((wrap64 ((rd ([x167000_3, x167001_3, x167002_3, x167003_3] : List Int) x7_1) * 10)) + (wrap64 (((bt (rdOf ByteArray.empty t163 x7_1) x8_3) - 48) % 256))) else x167001_3)), ((if x7_1 = 2 then wrap64 ((wrap64 ((rd ([x167000_3, x167001_3, x167002_3, x167003_3] : List Int) x7_1) * 10)) + (wrap64 (((bt (rdOf ByteArray.empty t163 x7_1) x8_3) - 48) % 256))) else x167002_3)), ((if x7_1 = 3 then wrap64 ((wrap64 ((rd ([x167000_3, x167001_3, x167002_3, x167003_3] : List Int) x7_1) * 10)) + (wrap64 (((bt (rdOf ByteArray.empty t163 x7_1) x8_3) - 48) % 256))) else x167003_3)), (by first | rfl | (simp; done) | (simp [*]; done)), H', ⟨by have := HK1.out; have := HJ7.out; have := HK3.out; omega⟩, ⟨by (with_reducible repeat (first | apply Kd.R_alloc | apply Kd.R_drewN | apply Kd.R_drew)); exact Kd.R_mono (Kd.R_far (p := ⟨gb166, (x7_1 : Int).toNat, none⟩) (Kd.R_types HO_5.out BK166.out (by decide)) (fun _ hk => hk.2) (.int .i64 (wrap64 ((wrap64 ((rd ([x167000_3, x167001_3, x167002_3, x167003_3] : List Int) x7_1) * 10)) + (wrap64 (((bt (rdOf ByteArray.empty t163 x7_1) x8_3) - 48) % 256)))))) (fun _ hk => trivial)⟩, ⟨by (with_reducible repeat (first | refine blk_drewN ?_ _ | refine blk_drew ?_ | refine blk_alloc ?_ _)); refine blk_put (cs := #[.int .i64 x167000_3, .int .i64 x167001_3, .int .i64 x167002_3, .int .i64 x167003_3]) ?_ ((x7_1 : Int).toNat) _ (arr_set (Value.int .i64) ([x167000_3, x167001_3, x167002_3, x167003_3] : List Int) (x7_1) (of_eq_true p30) (wrap64 ((wrap64 ((rd ([x167000_3, x167001_3, x167002_3, x167003_3] : List Int) x7_1) * 10)) + (wrap64 (((bt (rdOf ByteArray.empty t163 x7_1) x8_3) - 48) % 256))))); (with_reducible repeat (first | refine blk_drewN ?_ _ | refine blk_drew ?_ | refine blk_alloc ?_ _)); exact BK166.out⟩, ⟨by repeat (first | (with_reducible first | exact HB.out | apply below_alloc | apply pw_below_drewN | apply below_drew1 | refine below_set ?_ GE166.out) | exact HB.out)⟩⟩
                                · rw [if_neg c25] at H
                                  exact absurd H (by simp)
                          · rw [if_neg c20] at H
                            exact absurd H (by simp)
                        · rw [if_neg c19] at H
                          have c19b0 : decide (x8_3 < ((rdOf ByteArray.empty t163 x7_1).size : Int)) = false := decide_eq_false c19
                          clear c19
                          by_cases c32 : x7_1 < 4
                          · rw [if_pos c32] at H
                            have c32b0 : decide (x7_1 < 4) = true := decide_eq_true c32
                            clear c32
                            by_cases c35 : (rd ([x167000_3, x167001_3, x167002_3, x167003_3] : List Int) x7_1) > 255
                            · rw [if_pos c35] at H
                              have c35b0 : decide (255 < (rd ([x167000_3, x167001_3, x167002_3, x167003_3] : List Int) x7_1)) = true := decide_eq_true c35
                              clear c35
                              simp only [Option.some.injEq, Prod.mk.injEq] at H
                              obtain ⟨rfl, rfl, rfl⟩ := H
                              have p171 : 0 ≤ (x7_1 : Int) := of_decide_eq_true (by first | (with_reducible assumption) | assumption)
                              have q171 : x7_1 < (t163.length : Int) := of_decide_eq_true (by first | (with_reducible assumption) | assumption)
                              obtain ⟨ad171, e171, hx171_0⟩ := Kd.at_string (Kd.R_reads' HO_5.out).2.2 x7_1 p171 q171
                              cases e171
                              replace p171 := eq_true p171
                              replace q171 := eq_true q171
                              have p33 : 0 ≤ (x7_1 : Int) := of_decide_eq_true (by first | (with_reducible assumption) | assumption)
                              have q33 : (x7_1 : Int) < (4 : Int) := of_decide_eq_true (by first | (with_reducible assumption) | assumption)
                              replace p33 := eq_true p33
                              replace q33 := eq_true q33
                              have p34 : 0 ≤ (x7_1 : Int) := of_decide_eq_true (by first | (with_reducible assumption) | assumption)
                              have q34 : (x7_1 : Int) < (4 : Int) := of_decide_eq_true (by first | (with_reducible assumption) | assumption)
                              replace p34 := eq_true p34
                              replace q34 := eq_true q34
                              have hcz36_0 : wr.cell? ⟨gb166, 0, none⟩ = some (.int .i64 x167000_3) := (blk_cell BK166.out 0).trans rfl
                              have hcz36_1 : wr.cell? ⟨gb166, 1, none⟩ = some (.int .i64 x167001_3) := (blk_cell BK166.out 1).trans rfl
                              have hcz36_2 : wr.cell? ⟨gb166, 2, none⟩ = some (.int .i64 x167002_3) := (blk_cell BK166.out 2).trans rfl
                              have hcz36_3 : wr.cell? ⟨gb166, 3, none⟩ = some (.int .i64 x167003_3) := (blk_cell BK166.out 3).trans rfl
                              have hfz36_0 := blk_frozen BK166.out 0
                              have hfz36_1 := blk_frozen BK166.out 1
                              have hfz36_2 := blk_frozen BK166.out 2
                              have hfz36_3 := blk_frozen BK166.out 3
                              have hx34 : wr.cell? ⟨gb166, (x7_1 : Int).toNat, none⟩ = some (.int .i64 (rd ([x167000_3, x167001_3, x167002_3, x167003_3] : List Int) x7_1)) := arr_cell (Value.int .i64) 0 (xs := ([x167000_3, x167001_3, x167002_3, x167003_3] : List Int)) BK166.out (x7_1) (of_eq_true p34) (of_eq_true q34)
                              go_wp2
                              go_ret3
                              exact ⟨by first | rfl | (simp [errW_none, errW_some] <;> rfl) | (simp [*, errW_none, errW_some] <;> rfl), by repeat (first | (with_reducible first | exact HB.out | apply below_alloc | apply pw_below_drewN | apply below_drew1 | refine below_set ?_ GE166.out) | exact HB.out)⟩
                            · rw [if_neg c35] at H
                              have c35b0 : decide (255 < (rd ([x167000_3, x167001_3, x167002_3, x167003_3] : List Int) x7_1)) = false := decide_eq_false c35
                              clear c35
                              have H' := Aside0.mk H
                              clear H
                              have p171 : 0 ≤ (x7_1 : Int) := of_decide_eq_true (by first | (with_reducible assumption) | assumption)
                              have q171 : x7_1 < (t163.length : Int) := of_decide_eq_true (by first | (with_reducible assumption) | assumption)
                              obtain ⟨ad171, e171, hx171_0⟩ := Kd.at_string (Kd.R_reads' HO_5.out).2.2 x7_1 p171 q171
                              cases e171
                              replace p171 := eq_true p171
                              replace q171 := eq_true q171
                              have p33 : 0 ≤ (x7_1 : Int) := of_decide_eq_true (by first | (with_reducible assumption) | assumption)
                              have q33 : (x7_1 : Int) < (4 : Int) := of_decide_eq_true (by first | (with_reducible assumption) | assumption)
                              replace p33 := eq_true p33
                              replace q33 := eq_true q33
                              have p34 : 0 ≤ (x7_1 : Int) := of_decide_eq_true (by first | (with_reducible assumption) | assumption)
                              have q34 : (x7_1 : Int) < (4 : Int) := of_decide_eq_true (by first | (with_reducible assumption) | assumption)
                              replace p34 := eq_true p34
                              replace q34 := eq_true q34
                              have hcz37_0 : wr.cell? ⟨gb166, 0, none⟩ = some (.int .i64 x167000_3) := (blk_cell BK166.out 0).trans rfl
                              have hcz37_1 : wr.cell? ⟨gb166, 1, none⟩ = some (.int .i64 x167001_3) := (blk_cell BK166.out 1).trans rfl
                              have hcz37_2 : wr.cell? ⟨gb166, 2, none⟩ = some (.int .i64 x167002_3) := (blk_cell BK166.out 2).trans rfl
                              have hcz37_3 : wr.cell? ⟨gb166, 3, none⟩ = some (.int .i64 x167003_3) := (blk_cell BK166.out 3).trans rfl
                              have hfz37_0 := blk_frozen BK166.out 0
                              have hfz37_1 := blk_frozen BK166.out 1
                              have hfz37_2 := blk_frozen BK166.out 2
                              have hfz37_3 := blk_frozen BK166.out 3
                              have hx34 : wr.cell? ⟨gb166, (x7_1 : Int).toNat, none⟩ = some (.int .i64 (rd ([x167000_3, x167001_3, x167002_3, x167003_3] : List Int) x7_1)) := arr_cell (Value.int .i64) 0 (xs := ([x167000_3, x167001_3, x167002_3, x167003_3] : List Int)) BK166.out (x7_1) (of_eq_true p34) (of_eq_true q34)
                              go_wp2
                              go_roundg k3
                              case measure => have := HK1.out; have := HJ7.out; have := HK3.out; omega
                              case rel => exact ⟨(wrap64 (x7_1 + 1)), (x167000_3), (x167001_3), (x167002_3), (x167003_3), (by first | rfl | (simp; done) | (simp [*]; done)), H', ⟨by have := HK1.out; have := HJ7.out; have := HK3.out; omega⟩, ⟨by (with_reducible repeat (first | apply Kd.R_alloc | apply Kd.R_drewN | apply Kd.R_drew)); exact HO_5.out⟩, ⟨by (with_reducible repeat (first | refine blk_drewN ?_ _ | refine blk_drew ?_ | refine blk_alloc ?_ _)); exact BK166.out⟩, ⟨by repeat (first | (with_reducible first | exact HB.out | apply below_alloc | apply pw_below_drewN | apply below_drew1 | refine below_set ?_ GE166.out) | exact HB.out)⟩⟩
                          · rw [if_neg c32] at H
                            exact absurd H (by simp)
                      · rw [if_neg c18] at H
                        exact absurd H (by simp)
                    · rw [if_neg c17] at H
                      exact absurd H (by simp)
        · rw [if_neg c7] at H
          have c7b0 : decide (x7_1 < 4) = false := decide_eq_false c7
          clear c7
          simp only [Option.some.injEq, Prod.mk.injEq] at H
          obtain ⟨rfl, rfl, rfl⟩ := H
          try go_wp2
          have n0_ := Aside0.mk (Kd.R_drew HO_5.out)
          have n1_ := Aside0.mk (blk_drew BK166.out)
          have n2_ := Aside0.mk (below_drew1 HB.out)
          clear HO_5
          clear BK166
          clear HB
          have HO_5 := n0_
          have BK166 := n1_
          have HB := n2_
          clear n0_ n1_ n2_
          refine start_ (n := 15) (S := fun w' => w'.cell? ⟨gb166, 0, none⟩ = some (.int .i64 x167000_1) ∧ w'.cell? ⟨gb166, 1, none⟩ = some (.int .i64 x167001_1) ∧ w'.cell? ⟨gb166, 2, none⟩ = some (.int .i64 x167002_1) ∧ w'.cell? ⟨gb166, 3, none⟩ = some (.int .i64 x167003_1)) (ds := []) #[false, false, false, false, false, false, false, false, false, false, false, false, false, false, false] (by kernel_rfl) rfl rfl ⟨(blk_cell BK166.out 0).trans rfl, (blk_cell BK166.out 1).trans rfl, (blk_cell BK166.out 2).trans rfl, (blk_cell BK166.out 3).trans rfl⟩ (fun hHeld => ?_); refine with_tabW gossamerref9_four.tab18 gossamerref9_four.bits18 (fun HT_ HW_ => ?_)
          generalize wr.drew = w38 at HO_5 BK166 HB hHeld ⊢
          refine pure_ (i := 0) (N := some 92) (v := ?_) (a' := ?_) #[true, false, false, false, false, false, false, false, false, false, false, false, false, false, false] rfl rfl (any_of HT_.out (by kernel_rfl)) (fun _ _ _ h => h) (Or.inl ⟨by rfl, ?_⟩) ?_ ?_
          rotate_left
          · intro w'
            go_simp
            with_reducible rfl
          rotate_left
          · simp only [Act.put, List.setIfInBounds_toArray, List.set_cons_zero, List.set_cons_succ, i64_w, i32_w]
            rfl
          refine pure_ (i := 3) (N := some 95) (v := ?_) (a' := ?_) #[true, false, false, true, false, false, false, false, false, false, false, false, false, false, false] rfl rfl (any_of HT_.out (by kernel_rfl)) (fun _ _ _ h => h) (Or.inl ⟨by rfl, ?_⟩) ?_ ?_
          rotate_left
          · intro w'
            go_simp
            with_reducible rfl
          rotate_left
          · simp only [Act.put, List.setIfInBounds_toArray, List.set_cons_zero, List.set_cons_succ, i64_w, i32_w]
            rfl
          refine pure_ (i := 6) (N := some 98) (v := ?_) (a' := ?_) #[true, false, false, true, false, false, true, false, false, false, false, false, false, false, false] rfl rfl (any_of HT_.out (by kernel_rfl)) (fun _ _ _ h => h) (Or.inl ⟨by rfl, ?_⟩) ?_ ?_
          rotate_left
          · intro w'
            go_simp
            with_reducible rfl
          rotate_left
          · simp only [Act.put, List.setIfInBounds_toArray, List.set_cons_zero, List.set_cons_succ, i64_w, i32_w]
            rfl
          refine pure_ (i := 9) (N := some 101) (v := ?_) (a' := ?_) #[true, false, false, true, false, false, true, false, false, true, false, false, false, false, false] rfl rfl (any_of HT_.out (by kernel_rfl)) (fun _ _ _ h => h) (Or.inl ⟨by rfl, ?_⟩) ?_ ?_
          rotate_left
          · intro w'
            go_simp
            with_reducible rfl
          rotate_left
          · simp only [Act.put, List.setIfInBounds_toArray, List.set_cons_zero, List.set_cons_succ, i64_w, i32_w]
            rfl
          refine take_ (i := 1) (N := some 93) (v := ?_) (a' := ?_) #[true, true, false, true, false, false, true, false, false, true, false, false, false, false, false] rfl rfl (take_ofW HT_.out HW_.out (by kernel_rfl)) (fun _ _ _ h => h) (Or.inl ⟨by rfl, ?_⟩) hHeld ?_ ?_
          rotate_left
          · rintro w' ⟨s0, s1, s2, s3⟩
            go_simp
            with_reducible rfl
          rotate_left
          · simp only [Act.put, List.setIfInBounds_toArray, List.set_cons_zero, List.set_cons_succ, i64_w, i32_w]
            rfl
          refine pure_ (i := 2) (N := some 94) (v := ?_) (a' := ?_) #[true, true, true, true, false, false, true, false, false, true, false, false, false, false, false] rfl rfl (any_of HT_.out (by kernel_rfl)) (fun _ _ _ h => h) (Or.inl ⟨by rfl, ?_⟩) ?_ ?_
          rotate_left
          · intro w'
            go_simp
            with_reducible rfl
          rotate_left
          · simp only [Act.put, List.setIfInBounds_toArray, List.set_cons_zero, List.set_cons_succ, i64_w, i32_w]
            rfl
          refine take_ (i := 4) (N := some 96) (v := ?_) (a' := ?_) #[true, true, true, true, true, false, true, false, false, true, false, false, false, false, false] rfl rfl (take_ofW HT_.out HW_.out (by kernel_rfl)) (fun _ _ _ h => h) (Or.inl ⟨by rfl, ?_⟩) hHeld ?_ ?_
          rotate_left
          · rintro w' ⟨s0, s1, s2, s3⟩
            go_simp
            with_reducible rfl
          rotate_left
          · simp only [Act.put, List.setIfInBounds_toArray, List.set_cons_zero, List.set_cons_succ, i64_w, i32_w]
            rfl
          refine pure_ (i := 5) (N := some 97) (v := ?_) (a' := ?_) #[true, true, true, true, true, true, true, false, false, true, false, false, false, false, false] rfl rfl (any_of HT_.out (by kernel_rfl)) (fun _ _ _ h => h) (Or.inl ⟨by rfl, ?_⟩) ?_ ?_
          rotate_left
          · intro w'
            go_simp
            with_reducible rfl
          rotate_left
          · simp only [Act.put, List.setIfInBounds_toArray, List.set_cons_zero, List.set_cons_succ, i64_w, i32_w]
            rfl
          refine pure_ (i := 12) (N := some 2) (v := ?_) (a' := ?_) #[true, true, true, true, true, true, true, false, false, true, false, false, true, false, false] rfl rfl (any_of HT_.out (by kernel_rfl)) (fun _ _ _ h => h) (Or.inl ⟨by rfl, ?_⟩) ?_ ?_
          rotate_left
          · intro w'
            go_simp
            with_reducible rfl
          rotate_left
          · simp only [Act.put, List.setIfInBounds_toArray, List.set_cons_zero, List.set_cons_succ, i64_w, i32_w]
            rfl
          refine take_ (i := 7) (N := some 99) (v := ?_) (a' := ?_) #[true, true, true, true, true, true, true, true, false, true, false, false, true, false, false] rfl rfl (take_ofW HT_.out HW_.out (by kernel_rfl)) (fun _ _ _ h => h) (Or.inl ⟨by rfl, ?_⟩) hHeld ?_ ?_
          rotate_left
          · rintro w' ⟨s0, s1, s2, s3⟩
            go_simp
            with_reducible rfl
          rotate_left
          · simp only [Act.put, List.setIfInBounds_toArray, List.set_cons_zero, List.set_cons_succ, i64_w, i32_w]
            rfl
          refine pure_ (i := 8) (N := some 100) (v := ?_) (a' := ?_) #[true, true, true, true, true, true, true, true, true, true, false, false, true, false, false] rfl rfl (any_of HT_.out (by kernel_rfl)) (fun _ _ _ h => h) (Or.inl ⟨by rfl, ?_⟩) ?_ ?_
          rotate_left
          · intro w'
            go_simp
            with_reducible rfl
          rotate_left
          · simp only [Act.put, List.setIfInBounds_toArray, List.set_cons_zero, List.set_cons_succ, i64_w, i32_w]
            rfl
          refine take_ (i := 10) (N := some 102) (v := ?_) (a' := ?_) #[true, true, true, true, true, true, true, true, true, true, true, false, true, false, false] rfl rfl (take_ofW HT_.out HW_.out (by kernel_rfl)) (fun _ _ _ h => h) (Or.inl ⟨by rfl, ?_⟩) hHeld ?_ ?_
          rotate_left
          · rintro w' ⟨s0, s1, s2, s3⟩
            go_simp
            with_reducible rfl
          rotate_left
          · simp only [Act.put, List.setIfInBounds_toArray, List.set_cons_zero, List.set_cons_succ, i64_w, i32_w]
            rfl
          refine pure_ (i := 11) (N := some 103) (v := ?_) (a' := ?_) #[true, true, true, true, true, true, true, true, true, true, true, true, true, false, false] rfl rfl (any_of HT_.out (by kernel_rfl)) (fun _ _ _ h => h) (Or.inl ⟨by rfl, ?_⟩) ?_ ?_
          rotate_left
          · intro w'
            go_simp
            with_reducible rfl
          rotate_left
          · simp only [Act.put, List.setIfInBounds_toArray, List.set_cons_zero, List.set_cons_succ, i64_w, i32_w]
            rfl
          refine pure_ (i := 13) (N := some 3) (v := ?_) (a' := ?_) #[true, true, true, true, true, true, true, true, true, true, true, true, true, true, false] rfl rfl (any_of HT_.out (by kernel_rfl)) (fun _ _ _ h => h) (Or.inl ⟨by rfl, ?_⟩) ?_ ?_
          rotate_left
          · intro w'
            go_simp
            with_reducible rfl
          rotate_left
          · simp only [Act.put, List.setIfInBounds_toArray, List.set_cons_zero, List.set_cons_succ, i64_w, i32_w]
            rfl
          refine pure_ (i := 14) (N := some 4) (v := ?_) (a' := ?_) #[true, true, true, true, true, true, true, true, true, true, true, true, true, true, true] rfl rfl (any_of HT_.out (by kernel_rfl)) (fun _ _ _ h => h) (Or.inl ⟨by rfl, ?_⟩) ?_ ?_
          rotate_left
          · intro w'
            go_simp
            with_reducible rfl
          rotate_left
          · simp only [Act.put, List.setIfInBounds_toArray, List.set_cons_zero, List.set_cons_succ, i64_w, i32_w]
            rfl
          refine done_ (done_of HT_.out (by kernel_rfl)) ?_
          try go_wp2
          go_ret3
          exact ⟨by first | rfl | (simp [errW_none, errW_some] <;> rfl) | (simp [*, errW_none, errW_some] <;> rfl), by repeat (first | (with_reducible first | exact HB.out | apply below_alloc | apply pw_below_drewN | apply below_drew1 | refine below_set ?_ GE166.out) | exact HB.out)⟩
  · rw [if_neg c3] at H
    have c3b0 : ((t163.length : Int) == 4) = false := beq_eq_false_iff_ne.mpr c3
    have c3b1 : ((t163.length : Int) != 4) = true := bne_iff_ne.mpr c3
    simp only [Option.some.injEq, Prod.mk.injEq] at H
    obtain ⟨rfl, rfl, rfl⟩ := H
    go_enter Tryd.func30, Tryd.ntmps30
    go_wp2_with (first | ((with_reducible refine gate_callee (f := 29) rfl ?_); refine goesL_ (some 10) rfl rfl Tryd.func29 (by kernel_rfl) rfl #[.string a0, .int .u8 46] rfl (by (try simp only [List.map_toArray, List.map_cons, List.map_nil]); first | done | rfl | (simp only [List.length_drop, List.length_take]; rfl)) ?_; (with_reducible refine (gossamerref8_Parts.calls k a0 46 t163 _ A2.out).mono ?_); rintro e w39 ⟨v164, rfl, ho0, hb⟩; refine ⟨_, rfl, ?_⟩; have n0_ := Aside0.mk (Kd.R_lower ho0 (below_size (by repeat (first | (with_reducible first | exact HB.out | apply below_alloc | apply pw_below_drewN | apply below_drew1) | exact HB.out)))); have n1_ := Aside0.mk (below_step (by repeat (first | (with_reducible first | exact HB.out | apply below_alloc | apply pw_below_drewN | apply below_drew1) | exact HB.out)) hb); clear HB; have HO165 := n0_; have HB := n1_; clear n0_ n1_; (try clear hb); (try clear hb2); (try clear hk); (try clear hi); (try clear ho0); obtain ⟨Ao40, co40, eo40⟩ := Kd.R_slice HO165.out; subst eo40))
    go_ret3
    exact ⟨by first | rfl | (simp [errW_none, errW_some] <;> rfl) | (simp [*, errW_none, errW_some] <;> rfl), by repeat (first | (with_reducible first | exact HB.out | apply below_alloc | apply pw_below_drewN | apply below_drew1) | exact HB.out)⟩

end Go.Proofs.YtcpfhnodbgojaaaDoor.PF
