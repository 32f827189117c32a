-- WRITTEN BY A PROGRAM OF THIS SESSION (wip/tools/xprint.py, over the kit's print.py).
import Derived.Test.YtcpfhnodbgojaaaDoorPFx0
import Derived.Test.YtcpfhnodbgojaaaDoorPFx1
import Derived.Test.YtcpfhnodbgojaaaDoorPFx3
import Derived.Test.YtcpfhnodbgojaaaDoorPFx4
namespace Go.Proofs.YtcpfhnodbgojaaaDoor.PF
open Go.RowKit Go.Proofs.YtcpfhnodbgojaaaDoorW.PrintWords Go.Proofs.YtcpfhnodbgojaaaDoorW.PrintLast Go.Proofs.YtcpfhnodbgojaaaDoorW.PrintMore Go.Proofs.YtcpfhnodbgojaaaDoorE
attribute [local go_sem] max2_int min2_int max_two min_two max_three min_three max_four min_four   -- for this text's walks alone
set_option linter.unusedVariables false
set_option linter.unusedSimpArgs false

attribute [local go_sem high] eqA24
/-! ### ip6_row: function 20 -/
mutual
def ip6_row.l0 : Nat → Int → Int → Int → Int → Int → Int → Int → Int → Int → Int → Int → Option (Int × Int)
  | 0, _, _, _, _, _, _, _, _, _, _, _ => none
  | k + 1, x4, x5, x6, x130000, x130001, x130002, x130003, x130004, x130005, x130006, x130007 => if x6 < 8 then (ip6_row.l1 k x4 x5 x6 0 x130000 x130001 x130002 x130003 x130004 x130005 x130006 x130007) else (if x5 < 2 then (some (8, 0)) else (some (x4, x5)))
def ip6_row.l1 : Nat → Int → Int → Int → Int → Int → Int → Int → Int → Int → Int → Int → Int → Option (Int × Int)
  | 0, _, _, _, _, _, _, _, _, _, _, _, _ => none
  | k + 1, x4, x5, x6, x7, x130000, x130001, x130002, x130003, x130004, x130005, x130006, x130007 => if (wrap64 (x6 + x7)) < 8 then (if 0 ≤ (wrap64 (x6 + x7)) then (if (rd ([x130000, x130001, x130002, x130003, x130004, x130005, x130006, x130007] : List Int) (wrap64 (x6 + x7))) = 0 then (ip6_row.l1 k x4 x5 x6 (wrap64 (x7 + 1)) x130000 x130001 x130002 x130003 x130004 x130005 x130006 x130007) else (if x7 > x5 then (ip6_row.l0 k x6 x7 (wrap64 (x6 + 1)) x130000 x130001 x130002 x130003 x130004 x130005 x130006 x130007) else (ip6_row.l0 k x4 x5 (wrap64 (x6 + 1)) x130000 x130001 x130002 x130003 x130004 x130005 x130006 x130007))) else (none)) else (if x7 > x5 then (ip6_row.l0 k x6 x7 (wrap64 (x6 + 1)) x130000 x130001 x130002 x130003 x130004 x130005 x130006 x130007) else (ip6_row.l0 k x4 x5 (wrap64 (x6 + 1)) x130000 x130001 x130002 x130003 x130004 x130005 x130006 x130007))
end
def ip6_row.f (k : Nat) (a0_0 : Int) (a0_1 : Int) (a0_2 : Int) (a0_3 : Int) (a0_4 : Int) (a0_5 : Int) (a0_6 : Int) (a0_7 : Int) : Option (Int × Int) := ip6_row.l0 k 0 1 0 a0_0 a0_1 a0_2 a0_3 a0_4 a0_5 a0_6 a0_7
theorem ip6_row.mono_l : ∀ k, (∀ y0 y1 y2 y3 y4 y5 y6 y7 y8 y9 y10, LeO (ip6_row.l0 k y0 y1 y2 y3 y4 y5 y6 y7 y8 y9 y10) (ip6_row.l0 (k + 1) y0 y1 y2 y3 y4 y5 y6 y7 y8 y9 y10)) ∧ (∀ y0 y1 y2 y3 y4 y5 y6 y7 y8 y9 y10 y11, LeO (ip6_row.l1 k y0 y1 y2 y3 y4 y5 y6 y7 y8 y9 y10 y11) (ip6_row.l1 (k + 1) y0 y1 y2 y3 y4 y5 y6 y7 y8 y9 y10 y11))
  | 0 => ⟨fun _ _ _ _ _ _ _ _ _ _ _ r h => by simp [ip6_row.l0] at h, fun _ _ _ _ _ _ _ _ _ _ _ _ r h => by simp [ip6_row.l1] at h⟩
  | k + 1 => by
    obtain ⟨ih0, ih1⟩ := ip6_row.mono_l k
    refine ⟨?_, ?_⟩
    · intro y0 y1 y2 y3 y4 y5 y6 y7 y8 y9 y10
      unfold ip6_row.l0
      repeat' first
      | (with_reducible exact ih0 _ _ _ _ _ _ _ _ _ _ _)
      | (with_reducible exact ih1 _ _ _ _ _ _ _ _ _ _ _ _)
      | (with_reducible exact LeO.refl _)
      | (with_reducible exact LeO.none _)
      | (with_reducible refine LeO.ite ?_ ?_)
      | (with_reducible refine LeO.bind ?_ (fun _ => ?_))
      | exact ih0 _ _ _ _ _ _ _ _ _ _ _
      | exact ih1 _ _ _ _ _ _ _ _ _ _ _ _
      | exact LeO.none _
      | refine LeO.ite ?_ ?_
      | refine LeO.bind ?_ (fun _ => ?_)
    · intro y0 y1 y2 y3 y4 y5 y6 y7 y8 y9 y10 y11
      unfold ip6_row.l1
      repeat' first
      | (with_reducible exact ih0 _ _ _ _ _ _ _ _ _ _ _)
      | (with_reducible exact ih1 _ _ _ _ _ _ _ _ _ _ _ _)
      | (with_reducible exact LeO.refl _)
      | (with_reducible exact LeO.none _)
      | (with_reducible refine LeO.ite ?_ ?_)
      | (with_reducible refine LeO.bind ?_ (fun _ => ?_))
      | exact ih0 _ _ _ _ _ _ _ _ _ _ _
      | exact ih1 _ _ _ _ _ _ _ _ _ _ _ _
      | exact LeO.none _
      | refine LeO.ite ?_ ?_
      | refine LeO.bind ?_ (fun _ => ?_)
theorem ip6_row.mono : ∀ a0 a1 a2 a3 a4 a5 a6 a7 k, LeO (ip6_row.f k a0 a1 a2 a3 a4 a5 a6 a7) (ip6_row.f (k + 1) a0 a1 a2 a3 a4 a5 a6 a7) := by
  intro a0 a1 a2 a3 a4 a5 a6 a7 k
  obtain ⟨ih0, ih1⟩ := ip6_row.mono_l k
  unfold ip6_row.f
  repeat' first
      | (with_reducible exact ih0 _ _ _ _ _ _ _ _ _ _ _)
      | (with_reducible exact ih1 _ _ _ _ _ _ _ _ _ _ _ _)
      | (with_reducible exact LeO.refl _)
      | (with_reducible exact LeO.none _)
      | (with_reducible refine LeO.ite ?_ ?_)
      | (with_reducible refine LeO.bind ?_ (fun _ => ?_))
      | exact ih0 _ _ _ _ _ _ _ _ _ _ _
      | exact ih1 _ _ _ _ _ _ _ _ _ _ _ _
      | exact LeO.none _
      | refine LeO.ite ?_ ?_
      | refine LeO.bind ?_ (fun _ => ?_)
set_option maxHeartbeats 8000000 in
set_option maxRecDepth 100000 in
theorem ip6_row.calls (k : Nat) (a0_0 : Int) (a0_1 : Int) (a0_2 : Int) (a0_3 : Int) (a0_4 : Int) (a0_5 : Int) (a0_6 : Int) (a0_7 : Int) (r1 : Int) (r2 : Int) (w : World) (h : ip6_row.f k a0_0 a0_1 a0_2 a0_3 a0_4 a0_5 a0_6 a0_7 = some (r1, r2)) :
    Calls Tryd.prog 20 #[.agg #[.int .u16 a0_0, .int .u16 a0_1, .int .u16 a0_2, .int .u16 a0_3, .int .u16 a0_4, .int .u16 a0_5, .int .u16 a0_6, .int .u16 a0_7]] w fun e w' => e = .returned (.tuple #[.int .i64 r1, .int .i64 r2]) ∧ Below w.heap.size w w' := by
  have hu24 := Tryd.underlying24
  have HB := Aside0.mk (Below.refl w.heap.size w)
  have H : (ip6_row.l0 k 0 1 0 a0_0 a0_1 a0_2 a0_3 a0_4 a0_5 a0_6 a0_7) = some (r1, r2) := h
  clear h
  have H' := Aside0.mk H
  clear H
  go_enter Tryd.func20, Tryd.ntmps20
  go_wp2_with (first | ((with_reducible refine gate_dst (N := 1) rfl ?_); refine box_event ?hg (N := 1) ?hd (cs := #[.int .u16 a0_0, .int .u16 a0_1, .int .u16 a0_2, .int .u16 a0_3, .int .u16 a0_4, .int .u16 a0_5, .int .u16 a0_6, .int .u16 a0_7]) (t := 24) ?hr ?_; (case hd => rfl); (case hg => rfl); (case hr => first | (go_simp; done) | (go_simp; rfl)); intro gb129 hg w2 hbox hb; have n0_ := Aside0.mk (below_step (by repeat (first | (with_reducible first | exact HB.out | apply below_alloc | apply pw_below_drewN | apply below_drew1) | exact HB.out)) hb); have n1_ := Aside0.mk (hbox); have n2_ := Aside0.mk ((by rw [hg]; exact (below_size (by repeat (first | (with_reducible first | exact HB.out | apply below_alloc | apply pw_below_drewN | apply below_drew1) | exact HB.out))) : w.heap.size ≤ gb129)); have n3_ := Aside0.mk ((by rw [hg]; exact (below_size (by repeat (first | (with_reducible first | exact HB.out | apply below_alloc | apply pw_below_drewN | apply below_drew1) | exact HB.out))) : w.heap.size ≤ gb129)); clear HB; have HB := n0_; have BK129 := n1_; have GW129 := n2_; have GE129 := n3_; clear n0_ n1_ n2_ n3_; clear hb hbox hg))
  go_loopg [4, 5, 6] k (fun kq v4 v5 v6 w' => ∃ (x4_1 : Int) (x5_1 : Int) (x6_1 : Int), v4 = .int .i64 x4_1 ∧ v5 = .int .i64 x5_1 ∧ v6 = .int .i64 x6_1 ∧ Aside0 (ip6_row.l0 kq x4_1 x5_1 x6_1 a0_0 a0_1 a0_2 a0_3 a0_4 a0_5 a0_6 a0_7 = some (r1, r2)) ∧ Aside0 (kq ≤ k) ∧ Aside0 (w'.heap[gb129]? = some (.cells #[.int .u16 a0_0, .int .u16 a0_1, .int .u16 a0_2, .int .u16 a0_3, .int .u16 a0_4, .int .u16 a0_5, .int .u16 a0_6, .int .u16 a0_7] 24 (0, 0))) ∧ Aside0 (Below w.heap.size w w'))
  case atStart => exact ⟨(0), (1), (0), (by first | rfl | (simp; done) | (simp [*]; done)), (by first | rfl | (simp; done) | (simp [*]; done)), (by first | rfl | (simp; done) | (simp [*]; done)), H', ⟨Nat.le_refl _⟩, ⟨by (with_reducible repeat (first | refine blk_drewN ?_ _ | refine blk_drew ?_ | refine blk_alloc ?_ _)); exact BK129.out⟩, ⟨by repeat (first | (with_reducible first | exact HB.out | apply below_alloc | apply pw_below_drewN | apply below_drew1 | refine below_set ?_ GE129.out) | exact HB.out)⟩⟩
  case round =>
    clear H'
    try clear c2
    try clear p2
    obtain ⟨x4_1, x5_1, x6_1, rfl, rfl, rfl, HA, HK1, BK129, HB⟩ := hrel
    cases gk with
    | zero => exact absurd HA.out (by simp [ip6_row.l0])
    | succ k1 =>
      have H := HA.out
      clear HA
      simp only [ip6_row.l0] at H
      by_cases c3 : x6_1 < 8
      · rw [if_pos c3] at H
        have c3b0 : decide (x6_1 < 8) = true := decide_eq_true c3
        clear c3
        have H' := Aside0.mk H
        clear H
        go_wp2
        go_loopg [7] k1 (fun kq v7 w' => ∃ (x7_2 : Int), v7 = .int .i64 x7_2 ∧ Aside0 (ip6_row.l1 kq x4_1 x5_1 x6_1 x7_2 a0_0 a0_1 a0_2 a0_3 a0_4 a0_5 a0_6 a0_7 = some (r1, r2)) ∧ Aside0 (kq ≤ k1) ∧ Aside0 (w'.heap[gb129]? = some (.cells #[.int .u16 a0_0, .int .u16 a0_1, .int .u16 a0_2, .int .u16 a0_3, .int .u16 a0_4, .int .u16 a0_5, .int .u16 a0_6, .int .u16 a0_7] 24 (0, 0))) ∧ Aside0 (Below w.heap.size w w'))
        case atStart => exact ⟨(0), (by first | rfl | (simp; done) | (simp [*]; done)), H', ⟨Nat.le_refl _⟩, ⟨by (with_reducible repeat (first | refine blk_drewN ?_ _ | refine blk_drew ?_ | refine blk_alloc ?_ _)); exact BK129.out⟩, ⟨by repeat (first | (with_reducible first | exact HB.out | apply below_alloc | apply pw_below_drewN | apply below_drew1 | refine below_set ?_ GE129.out) | exact HB.out)⟩⟩
        case round =>
          clear H'
          try clear c2
          try clear p2
          try clear c3
          try clear c3b0
          try clear p2
          obtain ⟨x7_2, rfl, HA, HK2, BK129, HB⟩ := hrel
          cases gk with
          | zero => exact absurd HA.out (by simp [ip6_row.l1])
          | succ k2 =>
            have H := HA.out
            clear HA
            simp only [ip6_row.l1] at H
            by_cases c4 : (wrap64 (x6_1 + x7_2)) < 8
            · rw [if_pos c4] at H
              have c4b0 : decide ((wrap64 (x6_1 + x7_2)) < 8) = true := decide_eq_true c4
              clear c4
              obtain ⟨ji5, hji5⟩ : ∃ j_ : Int, (wrap64 (x6_1 + x7_2)) = j_ := ⟨_, rfl⟩
              replace H : (if 0 ≤ (ji5) then (if (rd ([a0_0, a0_1, a0_2, a0_3, a0_4, a0_5, a0_6, a0_7] : List Int) (ji5)) = 0 then (ip6_row.l1 k2 x4_1 x5_1 x6_1 (wrap64 (x7_2 + 1)) a0_0 a0_1 a0_2 a0_3 a0_4 a0_5 a0_6 a0_7) else (if x7_2 > x5_1 then (ip6_row.l0 k2 x6_1 x7_2 (wrap64 (x6_1 + 1)) a0_0 a0_1 a0_2 a0_3 a0_4 a0_5 a0_6 a0_7) else (ip6_row.l0 k2 x4_1 x5_1 (wrap64 (x6_1 + 1)) a0_0 a0_1 a0_2 a0_3 a0_4 a0_5 a0_6 a0_7))) else (none)) = some (r1, r2) := by first | (rw [hji5] at H; exact H) | (simp only [hji5] at H ⊢; exact H)
              (try rw [hji5] at c4b0)
              have hji5w : (IntKind.i64.wrap (x6_1 + x7_2)) = ji5 := (i64_w _).trans hji5
              by_cases c6 : 0 ≤ (ji5)
              · rw [if_pos c6] at H
                have c6b0 : decide (0 ≤ (ji5)) = true := decide_eq_true c6
                clear c6
                by_cases c9 : (rd ([a0_0, a0_1, a0_2, a0_3, a0_4, a0_5, a0_6, a0_7] : List Int) (ji5)) = 0
                · rw [if_pos c9] at H
                  have c9b0 : ((rd ([a0_0, a0_1, a0_2, a0_3, a0_4, a0_5, a0_6, a0_7] : List Int) (ji5)) == 0) = true := beq_iff_eq.mpr c9
                  have c9b1 : ((rd ([a0_0, a0_1, a0_2, a0_3, a0_4, a0_5, a0_6, a0_7] : List Int) (ji5)) != 0) = false := bne_eq_false_iff_eq.mpr c9
                  clear c9
                  have H' := Aside0.mk H
                  clear H
                  have p7 : 0 ≤ ((ji5) : Int) := of_decide_eq_true (by first | (with_reducible assumption) | assumption)
                  have q7 : ((ji5) : Int) < (8 : Int) := of_decide_eq_true (by first | (with_reducible assumption) | assumption)
                  replace p7 := eq_true p7
                  replace q7 := eq_true q7
                  have p8 : 0 ≤ ((ji5) : Int) := of_decide_eq_true (by first | (with_reducible assumption) | assumption)
                  have q8 : ((ji5) : Int) < (8 : Int) := of_decide_eq_true (by first | (with_reducible assumption) | assumption)
                  replace p8 := eq_true p8
                  replace q8 := eq_true q8
                  have hcz10_0 : wr.cell? ⟨gb129, 0, none⟩ = some (.int .u16 a0_0) := (blk_cell BK129.out 0).trans rfl
                  have hcz10_1 : wr.cell? ⟨gb129, 1, none⟩ = some (.int .u16 a0_1) := (blk_cell BK129.out 1).trans rfl
                  have hcz10_2 : wr.cell? ⟨gb129, 2, none⟩ = some (.int .u16 a0_2) := (blk_cell BK129.out 2).trans rfl
                  have hcz10_3 : wr.cell? ⟨gb129, 3, none⟩ = some (.int .u16 a0_3) := (blk_cell BK129.out 3).trans rfl
                  have hcz10_4 : wr.cell? ⟨gb129, 4, none⟩ = some (.int .u16 a0_4) := (blk_cell BK129.out 4).trans rfl
                  have hcz10_5 : wr.cell? ⟨gb129, 5, none⟩ = some (.int .u16 a0_5) := (blk_cell BK129.out 5).trans rfl
                  have hcz10_6 : wr.cell? ⟨gb129, 6, none⟩ = some (.int .u16 a0_6) := (blk_cell BK129.out 6).trans rfl
                  have hcz10_7 : wr.cell? ⟨gb129, 7, none⟩ = some (.int .u16 a0_7) := (blk_cell BK129.out 7).trans rfl
                  have hfz10_0 := blk_frozen BK129.out 0
                  have hfz10_1 := blk_frozen BK129.out 1
                  have hfz10_2 := blk_frozen BK129.out 2
                  have hfz10_3 := blk_frozen BK129.out 3
                  have hfz10_4 := blk_frozen BK129.out 4
                  have hfz10_5 := blk_frozen BK129.out 5
                  have hfz10_6 := blk_frozen BK129.out 6
                  have hfz10_7 := blk_frozen BK129.out 7
                  have hx8 : wr.cell? ⟨gb129, ((ji5) : Int).toNat, none⟩ = some (.int .u16 (rd ([a0_0, a0_1, a0_2, a0_3, a0_4, a0_5, a0_6, a0_7] : List Int) (ji5))) := arr_cell (Value.int .u16) 0 (xs := ([a0_0, a0_1, a0_2, a0_3, a0_4, a0_5, a0_6, a0_7] : List Int)) BK129.out ((ji5)) (of_eq_true p8) (of_eq_true q8)
                  go_wp2
                  go_roundg k2
                  case measure => have := HK1.out; have := HK2.out; omega
                  case rel => exact ⟨(wrap64 (x7_2 + 1)), (by first | rfl | (simp; done) | (simp [*]; done)), H', ⟨by have := HK1.out; have := HK2.out; omega⟩, ⟨by (with_reducible repeat (first | refine blk_drewN ?_ _ | refine blk_drew ?_ | refine blk_alloc ?_ _)); exact BK129.out⟩, ⟨by repeat (first | (with_reducible first | exact HB.out | apply below_alloc | apply pw_below_drewN | apply below_drew1 | refine below_set ?_ GE129.out) | exact HB.out)⟩⟩
                · rw [if_neg c9] at H
                  have c9b0 : ((rd ([a0_0, a0_1, a0_2, a0_3, a0_4, a0_5, a0_6, a0_7] : List Int) (ji5)) == 0) = false := beq_eq_false_iff_ne.mpr c9
                  have c9b1 : ((rd ([a0_0, a0_1, a0_2, a0_3, a0_4, a0_5, a0_6, a0_7] : List Int) (ji5)) != 0) = true := bne_iff_ne.mpr c9
                  by_cases c11 : x7_2 > x5_1
                  · rw [if_pos c11] at H
                    have c11b0 : decide (x5_1 < x7_2) = true := decide_eq_true c11
                    clear c11
                    have H' := Aside0.mk H
                    clear H
                    have p7 : 0 ≤ ((ji5) : Int) := of_decide_eq_true (by first | (with_reducible assumption) | assumption)
                    have q7 : ((ji5) : Int) < (8 : Int) := of_decide_eq_true (by first | (with_reducible assumption) | assumption)
                    replace p7 := eq_true p7
                    replace q7 := eq_true q7
                    have p8 : 0 ≤ ((ji5) : Int) := of_decide_eq_true (by first | (with_reducible assumption) | assumption)
                    have q8 : ((ji5) : Int) < (8 : Int) := of_decide_eq_true (by first | (with_reducible assumption) | assumption)
                    replace p8 := eq_true p8
                    replace q8 := eq_true q8
                    have hcz12_0 : wr.cell? ⟨gb129, 0, none⟩ = some (.int .u16 a0_0) := (blk_cell BK129.out 0).trans rfl
                    have hcz12_1 : wr.cell? ⟨gb129, 1, none⟩ = some (.int .u16 a0_1) := (blk_cell BK129.out 1).trans rfl
                    have hcz12_2 : wr.cell? ⟨gb129, 2, none⟩ = some (.int .u16 a0_2) := (blk_cell BK129.out 2).trans rfl
                    have hcz12_3 : wr.cell? ⟨gb129, 3, none⟩ = some (.int .u16 a0_3) := (blk_cell BK129.out 3).trans rfl
                    have hcz12_4 : wr.cell? ⟨gb129, 4, none⟩ = some (.int .u16 a0_4) := (blk_cell BK129.out 4).trans rfl
                    have hcz12_5 : wr.cell? ⟨gb129, 5, none⟩ = some (.int .u16 a0_5) := (blk_cell BK129.out 5).trans rfl
                    have hcz12_6 : wr.cell? ⟨gb129, 6, none⟩ = some (.int .u16 a0_6) := (blk_cell BK129.out 6).trans rfl
                    have hcz12_7 : wr.cell? ⟨gb129, 7, none⟩ = some (.int .u16 a0_7) := (blk_cell BK129.out 7).trans rfl
                    have hfz12_0 := blk_frozen BK129.out 0
                    have hfz12_1 := blk_frozen BK129.out 1
                    have hfz12_2 := blk_frozen BK129.out 2
                    have hfz12_3 := blk_frozen BK129.out 3
                    have hfz12_4 := blk_frozen BK129.out 4
                    have hfz12_5 := blk_frozen BK129.out 5
                    have hfz12_6 := blk_frozen BK129.out 6
                    have hfz12_7 := blk_frozen BK129.out 7
                    have hx8 : wr.cell? ⟨gb129, ((ji5) : Int).toNat, none⟩ = some (.int .u16 (rd ([a0_0, a0_1, a0_2, a0_3, a0_4, a0_5, a0_6, a0_7] : List Int) (ji5))) := arr_cell (Value.int .u16) 0 (xs := ([a0_0, a0_1, a0_2, a0_3, a0_4, a0_5, a0_6, a0_7] : List Int)) BK129.out ((ji5)) (of_eq_true p8) (of_eq_true q8)
                    go_wp2
                    go_roundg k2
                    case measure => have := HK1.out; have := HK2.out; omega
                    case rel => exact ⟨(x6_1), (x7_2), (wrap64 (x6_1 + 1)), (by first | rfl | (simp; done) | (simp [*]; done)), (by first | rfl | (simp; done) | (simp [*]; done)), (by first | rfl | (simp; done) | (simp [*]; done)), H', ⟨by have := HK1.out; have := HK2.out; omega⟩, ⟨by (with_reducible repeat (first | refine blk_drewN ?_ _ | refine blk_drew ?_ | refine blk_alloc ?_ _)); exact BK129.out⟩, ⟨by repeat (first | (with_reducible first | exact HB.out | apply below_alloc | apply pw_below_drewN | apply below_drew1 | refine below_set ?_ GE129.out) | exact HB.out)⟩⟩
                  · rw [if_neg c11] at H
                    have c11b0 : decide (x5_1 < x7_2) = false := decide_eq_false c11
                    clear c11
                    have H' := Aside0.mk H
                    clear H
                    have p7 : 0 ≤ ((ji5) : Int) := of_decide_eq_true (by first | (with_reducible assumption) | assumption)
                    have q7 : ((ji5) : Int) < (8 : Int) := of_decide_eq_true (by first | (with_reducible assumption) | assumption)
                    replace p7 := eq_true p7
                    replace q7 := eq_true q7
                    have p8 : 0 ≤ ((ji5) : Int) := of_decide_eq_true (by first | (with_reducible assumption) | assumption)
                    have q8 : ((ji5) : Int) < (8 : Int) := of_decide_eq_true (by first | (with_reducible assumption) | assumption)
                    replace p8 := eq_true p8
                    replace q8 := eq_true q8
                    have hcz13_0 : wr.cell? ⟨gb129, 0, none⟩ = some (.int .u16 a0_0) := (blk_cell BK129.out 0).trans rfl
                    have hcz13_1 : wr.cell? ⟨gb129, 1, none⟩ = some (.int .u16 a0_1) := (blk_cell BK129.out 1).trans rfl
                    have hcz13_2 : wr.cell? ⟨gb129, 2, none⟩ = some (.int .u16 a0_2) := (blk_cell BK129.out 2).trans rfl
                    have hcz13_3 : wr.cell? ⟨gb129, 3, none⟩ = some (.int .u16 a0_3) := (blk_cell BK129.out 3).trans rfl
                    have hcz13_4 : wr.cell? ⟨gb129, 4, none⟩ = some (.int .u16 a0_4) := (blk_cell BK129.out 4).trans rfl
                    have hcz13_5 : wr.cell? ⟨gb129, 5, none⟩ = some (.int .u16 a0_5) := (blk_cell BK129.out 5).trans rfl
                    have hcz13_6 : wr.cell? ⟨gb129, 6, none⟩ = some (.int .u16 a0_6) := (blk_cell BK129.out 6).trans rfl
                    have hcz13_7 : wr.cell? ⟨gb129, 7, none⟩ = some (.int .u16 a0_7) := (blk_cell BK129.out 7).trans rfl
                    have hfz13_0 := blk_frozen BK129.out 0
                    have hfz13_1 := blk_frozen BK129.out 1
                    have hfz13_2 := blk_frozen BK129.out 2
                    have hfz13_3 := blk_frozen BK129.out 3
                    have hfz13_4 := blk_frozen BK129.out 4
                    have hfz13_5 := blk_frozen BK129.out 5
                    have hfz13_6 := blk_frozen BK129.out 6
                    have hfz13_7 := blk_frozen BK129.out 7
                    have hx8 : wr.cell? ⟨gb129, ((ji5) : Int).toNat, none⟩ = some (.int .u16 (rd ([a0_0, a0_1, a0_2, a0_3, a0_4, a0_5, a0_6, a0_7] : List Int) (ji5))) := arr_cell (Value.int .u16) 0 (xs := ([a0_0, a0_1, a0_2, a0_3, a0_4, a0_5, a0_6, a0_7] : List Int)) BK129.out ((ji5)) (of_eq_true p8) (of_eq_true q8)
                    go_wp2
                    go_roundg k2
                    case measure => have := HK1.out; have := HK2.out; omega
                    case rel => exact ⟨(x4_1), (x5_1), (wrap64 (x6_1 + 1)), (by first | rfl | (simp; done) | (simp [*]; done)), (by first | rfl | (simp; done) | (simp [*]; done)), (by first | rfl | (simp; done) | (simp [*]; done)), H', ⟨by have := HK1.out; have := HK2.out; omega⟩, ⟨by (with_reducible repeat (first | refine blk_drewN ?_ _ | refine blk_drew ?_ | refine blk_alloc ?_ _)); exact BK129.out⟩, ⟨by repeat (first | (with_reducible first | exact HB.out | apply below_alloc | apply pw_below_drewN | apply below_drew1 | refine below_set ?_ GE129.out) | exact HB.out)⟩⟩
              · rw [if_neg c6] at H
                exact absurd H (by simp)
            · rw [if_neg c4] at H
              have c4b0 : decide ((wrap64 (x6_1 + x7_2)) < 8) = false := decide_eq_false c4
              clear c4
              by_cases c14 : x7_2 > x5_1
              · rw [if_pos c14] at H
                have c14b0 : decide (x5_1 < x7_2) = true := decide_eq_true c14
                clear c14
                have H' := Aside0.mk H
                clear H
                go_wp2
                go_roundg k2
                case measure => have := HK1.out; have := HK2.out; omega
                case rel => exact ⟨(x6_1), (x7_2), (wrap64 (x6_1 + 1)), (by first | rfl | (simp; done) | (simp [*]; done)), (by first | rfl | (simp; done) | (simp [*]; done)), (by first | rfl | (simp; done) | (simp [*]; done)), H', ⟨by have := HK1.out; have := HK2.out; omega⟩, ⟨by (with_reducible repeat (first | refine blk_drewN ?_ _ | refine blk_drew ?_ | refine blk_alloc ?_ _)); exact BK129.out⟩, ⟨by repeat (first | (with_reducible first | exact HB.out | apply below_alloc | apply pw_below_drewN | apply below_drew1 | refine below_set ?_ GE129.out) | exact HB.out)⟩⟩
              · rw [if_neg c14] at H
                have c14b0 : decide (x5_1 < x7_2) = false := decide_eq_false c14
                clear c14
                have H' := Aside0.mk H
                clear H
                go_wp2
                go_roundg k2
                case measure => have := HK1.out; have := HK2.out; omega
                case rel => exact ⟨(x4_1), (x5_1), (wrap64 (x6_1 + 1)), (by first | rfl | (simp; done) | (simp [*]; done)), (by first | rfl | (simp; done) | (simp [*]; done)), (by first | rfl | (simp; done) | (simp [*]; done)), H', ⟨by have := HK1.out; have := HK2.out; omega⟩, ⟨by (with_reducible repeat (first | refine blk_drewN ?_ _ | refine blk_drew ?_ | refine blk_alloc ?_ _)); exact BK129.out⟩, ⟨by repeat (first | (with_reducible first | exact HB.out | apply below_alloc | apply pw_below_drewN | apply below_drew1 | refine below_set ?_ GE129.out) | exact HB.out)⟩⟩
      · rw [if_neg c3] at H
        have c3b0 : decide (x6_1 < 8) = false := decide_eq_false c3
        clear c3
        by_cases c15 : x5_1 < 2
        · rw [if_pos c15] at H
          have c15b0 : decide (x5_1 < 2) = true := decide_eq_true c15
          clear c15
          simp only [Option.some.injEq, Prod.mk.injEq] at H
          obtain ⟨rfl, rfl⟩ := H
          go_wp2
          go_ret2
          exact ⟨by first | rfl | (simp [errW_none, errW_some] <;> rfl) | (simp [*, errW_none, errW_some] <;> rfl), by repeat (first | (with_reducible first | exact HB.out | apply below_alloc | apply pw_below_drewN | apply below_drew1 | refine below_set ?_ GE129.out) | exact HB.out)⟩
        · rw [if_neg c15] at H
          have c15b0 : decide (x5_1 < 2) = false := decide_eq_false c15
          clear c15
          simp only [Option.some.injEq, Prod.mk.injEq] at H
          obtain ⟨rfl, rfl⟩ := H
          go_wp2
          go_ret2
          exact ⟨by first | rfl | (simp [errW_none, errW_some] <;> rfl) | (simp [*, errW_none, errW_some] <;> rfl), by repeat (first | (with_reducible first | exact HB.out | apply below_alloc | apply pw_below_drewN | apply below_drew1 | refine below_set ?_ GE129.out) | exact HB.out)⟩

/-! ### strconv_FormatUint: function 32 (given) -/
-- CALLS
/-- A number's digits, by 16. -/
def strconv_FormatUint.digL : Nat → Nat → List UInt8
  | 0, _ => []
  | f + 1, u => if u < 16 then [([48, 49, 50, 51, 52, 53, 54, 55, 56, 57, 97, 98, 99, 100, 101, 102] : List UInt8).getD u 0] else strconv_FormatUint.digL f (u / 16) ++ [([48, 49, 50, 51, 52, 53, 54, 55, 56, 57, 97, 98, 99, 100, 101, 102] : List UInt8).getD (u % 16) 0]
def strconv_FormatUint.f (a0 : Int) (a1 : Int) : Option ByteArray := if a1 = 16 then (if 0 ≤ a0 then (if a0 < 65536 then some ⟨(strconv_FormatUint.digL 5 a0.toNat).toArray⟩ else none) else none) else none
theorem strconv_FormatUint.zeros64 (w : World) (hE : EnvOK w) : Calls Tryd.prog 67 #[.int .u64 16] w fun e w' => e = .returned (.int .i64 4) ∧ ∃ q, w' = w.drewN q := by
  have hg : Tryd.prog.globalNamed "math/bits.deBruijn64tab" = some 3 := by kernel_rfl
  have hc : w.cell? ⟨3, 15, none⟩ = some (.int .u8 4) := hE.bruijn.cell hg 15 (by decide)
  have hx : IntKind.u64.wrap (Go.bits BinOp.and IntKind.u64 16 (IntKind.u64.wrap (-16)) * 285870213051353865) / 288230376151711744 = 15 := by kernel_rfl
  go_enter Tryd.func67, Tryd.ntmps67
  go_wp2
  go_ret
  exact ⟨rfl, 0, rfl⟩
theorem strconv_FormatUint.zeros (w : World) (hE : EnvOK w) : Calls Tryd.prog 60 #[.int .u64 16] w fun e w' => e = .returned (.int .i64 4) ∧ ∃ q, w' = w.drewN q := by
  have h := strconv_FormatUint.zeros64 w hE
  go_enter Tryd.func60, Tryd.ntmps60
  go_wp2_with (go_at_call 67; refine h.mono ?_; rintro e w' ⟨rfl, q, rfl⟩)
  go_ret
  exact ⟨rfl, q, rfl⟩
theorem strconv_FormatUint.power (w : World) : Calls Tryd.prog 59 #[.int .i64 16] w fun e w' => e = .returned (.bool true) ∧ w' = w := by
  have hx : (Go.bits BinOp.and IntKind.i64 16 15 == 0) = true := by kernel_rfl
  go_enter Tryd.func59, Tryd.ntmps59
  go_wp2
  go_ret
  exact ⟨rfl, rfl⟩
/-- The array of 65 with the digits at its end. -/
def strconv_FormatUint.row (i : Nat) (ds : List UInt8) : Array Value := (List.replicate i (Value.int .u8 0) ++ ds.map fun b => Value.int .u8 b.toNat).toArray
theorem strconv_FormatUint.row_at {i : Nat} {ds : List UInt8} (j : Nat) (h : j < i) : (strconv_FormatUint.row i ds)[j]? = some (.int .u8 0) := by
  unfold strconv_FormatUint.row
  rw [List.getElem?_toArray, List.getElem?_append_left (by simpa using h), List.getElem?_replicate, if_pos h]
theorem strconv_FormatUint.row_set {i : Nat} {ds : List UInt8} (b : UInt8) : (strconv_FormatUint.row (i + 1) ds).setIfInBounds i (.int .u8 b.toNat) = strconv_FormatUint.row i (b :: ds) := by
  unfold strconv_FormatUint.row
  apply Array.ext'
  simp only [Array.toList_setIfInBounds, List.map_cons]
  rw [List.set_append_left _ _ (by simp), List.replicate_succ', List.set_append_right _ _ (by simp)]
  simp
theorem strconv_FormatUint.row_get {j : Nat} {ds : List UInt8} (i : Nat) (hi : i < ds.length) : (strconv_FormatUint.row j ds)[j + i]? = some (.int .u8 ((ds.map fun b => (b.toNat : Int)).getD i 0)) := by
  unfold strconv_FormatUint.row
  rw [List.getElem?_toArray, List.getElem?_append_right (by simp)]
  simp only [List.length_replicate, Nat.add_sub_cancel_left]
  rw [List.getElem?_map, List.getElem?_eq_getElem hi]
  simp [List.getD_eq_getElem?_getD, hi]
theorem strconv_FormatUint.nums (ds : List UInt8) : strOfNums (ds.map fun b => (b.toNat : Int)) = ⟨ds.toArray⟩ := by
  apply ByteArray.ext
  apply Array.ext'
  rw [strOfNums_data, List.map_map]
  have : ((fun n : Int => UInt8.ofNat n.toNat) ∘ fun b : UInt8 => (b.toNat : Int)) = id := by
    funext b
    simp
  rw [this, List.map_id]
def strconv_FormatUint.digs : ByteArray := ⟨#[48, 49, 50, 51, 52, 53, 54, 55, 56, 57, 97, 98, 99, 100, 101, 102, 103, 104, 105, 106, 107, 108, 109, 110, 111, 112, 113, 114, 115, 116, 117, 118, 119, 120, 121, 122]⟩
def strconv_FormatUint.hexB (n : Nat) : UInt8 := ([48, 49, 50, 51, 52, 53, 54, 55, 56, 57, 97, 98, 99, 100, 101, 102] : List UInt8).getD n 0
theorem strconv_FormatUint.digit : ∀ n : Fin 16, bt strconv_FormatUint.digs (n.val : Int) = ((strconv_FormatUint.hexB n.val).toNat : Int) := by decide +kernel
set_option maxHeartbeats 4000000 in
set_option maxRecDepth 100000 in
theorem strconv_FormatUint.bits (n : Nat) (hn : n < 65536) (w : World) (hE : EnvOK w) :
    Calls Tryd.prog 51 #[.slice none 0 0, .int .u64 n, .int .i64 16, .bool false, .bool false] w fun e w' => e = .returned (.tuple #[.slice none 0 0, .string ⟨(strconv_FormatUint.digL 5 n).toArray⟩]) ∧ Below w.heap.size w w' := by
  have HB := Aside0.mk (Below.refl w.heap.size w)
  have HE := Aside0.mk hE
  clear hE
  go_enter Tryd.func51, Tryd.ntmps51
  go_wp2_with (first | ((with_reducible refine gate_dst (N := 12) rfl ?_); refine box_event ?hg (N := 12) ?hd (cs := strconv_FormatUint.row 65 []) (t := 95) ?hr ?_; (case hd => rfl); (case hg => rfl); (case hr => first | (go_simp; done) | (go_simp; rfl)); intro gb hg w2 hbox hb; have n0_ := Aside0.mk (below_step HB.out hb); have BK := Aside0.mk hbox; have GE := Aside0.mk (by rw [hg]; exact Nat.le_refl _ : w.heap.size ≤ gb); clear HB; have HB := n0_; clear n0_ hb hbox hg) | (go_at_call 59; refine (strconv_FormatUint.power _).mono ?_; rintro e w' ⟨rfl, rfl⟩) | (go_at_call 60; refine (strconv_FormatUint.zeros _ (EnvOK.step HE.out HB.out)).mono ?_; rintro e w' ⟨rfl, q, rfl⟩; have n0_ := Aside0.mk (pw_below_drewN HB.out q)))
  go_loopg [1, 13] 5 (fun g v1 v13 w' => ∃ (xu xi : Int) (u i : Nat) (ds : List UInt8), v1 = .int .u64 xu ∧ v13 = .int .i64 xi ∧ Aside0 (xu = (u : Int) ∧ xi = (i : Int) ∧ u < 16 ^ g ∧ 0 < g ∧ i + ds.length = 65 ∧ ds.length + g = 5 ∧ strconv_FormatUint.digL g u ++ ds = strconv_FormatUint.digL 5 n) ∧ Aside0 (w'.heap[gb]? = some (.cells (strconv_FormatUint.row i ds) 95 (0, 0))) ∧ Aside0 (Below w.heap.size w w'))
  case atStart => exact ⟨n, 65, n, 65, [], rfl, rfl, ⟨rfl, rfl, by omega, by omega, rfl, rfl, by rw [List.append_nil]⟩, ⟨by (with_reducible repeat (first | refine blk_drewN ?_ _ | refine blk_drew ?_)); exact BK.out⟩, ⟨by repeat (first | exact HB.out | apply pw_below_drewN | apply below_drew1)⟩⟩
  case round =>
    obtain ⟨xu, xi, u, i, ds, rfl, rfl, HI, BK, HB⟩ := hrel
    by_cases hu : (16 : Int) ≤ xu
    · obtain ⟨e1, e2, e3, e4, e5, e6, e7⟩ := HI.out
      have c0 : decide ((16 : Int) ≤ xu) = true := decide_eq_true hu
      obtain ⟨j, rfl⟩ : ∃ j, i = j + 1 := ⟨i - 1, by omega⟩
      have hj : wrap64 (xi - 1) = (j : Int) := by unfold wrap64; omega
      have hu8 : xu < 1048576 := by have : (16 : Nat) ^ gk ≤ 16 ^ 5 := Nat.pow_le_pow_right (by omega) (by omega); omega
      have hand : Go.bits .and .u64 xu 15 = xu % 16 := bits_mask .u64 64 (by decide) (fun n h0 h1 => by rw [IntKind.wrap_u64]; omega) 4 (by decide) xu (by omega) (by omega)
      have qj : ((j : Int) < 65) = True := eq_true (by omega)
      have qj2 : (j < 65) = True := eq_true (by omega)
      have hcell : wr.cell? ⟨gb, j, none⟩ = some (.int .u8 0) := by rw [blk_cell BK.out]; exact strconv_FormatUint.row_at j (by omega)
      have hfro := blk_frozen BK.out j
      have pd : (0 ≤ xu % 16) = True := eq_true (by omega)
      have qd : (xu % 16 < 36) = True := eq_true (by omega)
      have hd := bt_at strconv_FormatUint.digs (xu % 16)
      unfold strconv_FormatUint.digs at hd
      have HS := Aside0.mk (And.intro e1 (And.intro e2 (And.intro e3 (And.intro e5 (And.intro e6 e7)))))
      clear e1 e2 e3 e4 e5 e6 e7 HI hu8
      go_wp2
      go_roundg (gk - 1)
      case measure => have h2 := HS.out; have : gk ≠ 0 := by rintro rfl; simp at h2; omega
                      omega
      case rel =>
        obtain ⟨e1, e2, e3, e5, e6, e7⟩ := HS.out
        cases gk with
        | zero => simp at e3; omega
        | succ f =>
          have hun : 16 ≤ u := by omega
          have hdig : bt (⟨#[48, 49, 50, 51, 52, 53, 54, 55, 56, 57, 97, 98, 99, 100, 101, 102, 103, 104, 105, 106, 107, 108, 109, 110, 111, 112, 113, 114, 115, 116, 117, 118, 119, 120, 121, 122]⟩ : ByteArray) (xu % 16) = ((strconv_FormatUint.hexB (u % 16)).toNat : Int) := by
            have := strconv_FormatUint.digit ⟨u % 16, by omega⟩
            rw [show xu % 16 = ((u % 16 : Nat) : Int) by omega]
            exact this
          have hd7 : strconv_FormatUint.digL (f + 1) u = strconv_FormatUint.digL f (u / 16) ++ [strconv_FormatUint.hexB (u % 16)] := by rw [strconv_FormatUint.digL, if_neg (by omega)]; rfl
          refine ⟨xu / 16, j, u / 16, j, strconv_FormatUint.hexB (u % 16) :: ds, rfl, rfl, ⟨by omega, rfl, ?_, ?_, by simp; omega, by simp; omega, ?_⟩, ⟨?_⟩, ⟨below_set HB.out GE.out⟩⟩
          · rw [Nat.pow_succ] at e3
            show u / 16 < 16 ^ f
            omega
          · show 0 < f
            rcases Nat.eq_zero_or_pos f with h | h
            · subst h; simp at e3; omega
            · exact h
          · show strconv_FormatUint.digL f (u / 16) ++ strconv_FormatUint.hexB (u % 16) :: ds = _
            rw [← e7, hd7, List.append_assoc]
            rfl
          · rw [hdig]
            exact blk_put BK.out j _ (strconv_FormatUint.row_set _)
    · obtain ⟨e1, e2, e3, e4, e5, e6, e7⟩ := HI.out
      have c0 : decide ((16 : Int) ≤ xu) = false := decide_eq_false hu
      obtain ⟨j, rfl⟩ : ∃ j, i = j + 1 := ⟨i - 1, by omega⟩
      have hj : wrap64 (xi - 1) = (j : Int) := by unfold wrap64; omega
      have qj : ((j : Int) < 65) = True := eq_true (by omega)
      have qj2 : (j < 65) = True := eq_true (by omega)
      have qj3 : (j ≤ 65) = True := eq_true (by omega)
      have hcell : wr.cell? ⟨gb, j, none⟩ = some (.int .u8 0) := by rw [blk_cell BK.out]; exact strconv_FormatUint.row_at j (by omega)
      have hfro := blk_frozen BK.out j
      have pd : (0 ≤ xu) = True := eq_true (by omega)
      have qd : (xu < 36) = True := eq_true (by omega)
      have hd := bt_at strconv_FormatUint.digs xu
      unfold strconv_FormatUint.digs at hd
      have hsl : ∀ W : World, (Instr.sliceAt 95 (.pointer (some ⟨gb, 0, none⟩)) (some (.int .i64 (j : Int))) none none).run Tryd.prog W = .ok (.slice (some ⟨gb, j, none⟩) (65 - j) (65 - j)) W := by
        intro W
        have hl : Tryd.prog.arrayLen 95 = 65 := by kernel_rfl
        have he : Tryd.prog.elem 95 = 5 := by kernel_rfl
        rw [run_sliceAt_array_l W 95 ⟨gb, 0, none⟩ (by rw [hl, he]; exact Tryd.underlying95) .i64 (j : Int) (by omega) (by rw [hl]; omega), hl, he]
        have hz : ((sizeOf 5).run Tryd.prog W) = .ok 1 W := by go_simp
        rw [hz]
        simp only [Result.andThen_ok, slicedAt, Int.toNat_natCast]
        rw [if_neg (by omega)]
        simp [Addr.add]
        omega
      have hun : u < 16 := by omega
      have hdig : bt (⟨#[48, 49, 50, 51, 52, 53, 54, 55, 56, 57, 97, 98, 99, 100, 101, 102, 103, 104, 105, 106, 107, 108, 109, 110, 111, 112, 113, 114, 115, 116, 117, 118, 119, 120, 121, 122]⟩ : ByteArray) xu = ((strconv_FormatUint.hexB u).toNat : Int) := by
        have := strconv_FormatUint.digit ⟨u, hun⟩
        rw [e1]
        exact this
      have hrow : strconv_FormatUint.hexB u :: ds = strconv_FormatUint.digL 5 n := by
        cases gk with
        | zero => omega
        | succ f => rw [← e7, strconv_FormatUint.digL, if_pos hun]; rfl
      have hcv : (convert 54 9 (.slice (some ⟨gb, j, none⟩) (65 - j) (65 - j))).run Tryd.prog (wr.setCell ⟨gb, j, none⟩ (.int .u8 (bt (⟨#[48, 49, 50, 51, 52, 53, 54, 55, 56, 57, 97, 98, 99, 100, 101, 102, 103, 104, 105, 106, 107, 108, 109, 110, 111, 112, 113, 114, 115, 116, 117, 118, 119, 120, 121, 122]⟩ : ByteArray) xu))) = .ok (.string ⟨(strconv_FormatUint.digL 5 n).toArray⟩) (wr.setCell ⟨gb, j, none⟩ (.int .u8 (bt (⟨#[48, 49, 50, 51, 52, 53, 54, 55, 56, 57, 97, 98, 99, 100, 101, 102, 103, 104, 105, 106, 107, 108, 109, 110, 111, 112, 113, 114, 115, 116, 117, 118, 119, 120, 121, 122]⟩ : ByteArray) xu))) := by
        rw [hdig]
        have hbk := blk_put BK.out j (.int .u8 (strconv_FormatUint.hexB u).toNat) (strconv_FormatUint.row_set _)
        have hlen : (strconv_FormatUint.hexB u :: ds).length = 65 - j := by simp; omega
        have := run_convert_bytes_arg (P := Tryd.prog) (w := wr.setCell ⟨gb, j, none⟩ (.int .u8 (strconv_FormatUint.hexB u).toNat)) 54 5 Tryd.underlying54 Tryd.underlying5 gb j (65 - j) (65 - j) ((strconv_FormatUint.hexB u :: ds).map fun b => (b.toNat : Int)) (by rw [List.length_map]; exact hlen) (fun i hi => by
          rw [blk_cell hbk]
          exact strconv_FormatUint.row_get i (by omega)) 9 Tryd.underlying9
        rw [this, strconv_FormatUint.nums, hrow]
      have HS := Aside0.mk (And.intro e1 (And.intro e2 (And.intro e3 (And.intro e5 (And.intro e6 e7)))))
      clear e1 e2 e3 e4 e5 e6 e7 HI hdig hrow
      go_wp2
      go_ret2
      exact ⟨rfl, below_set HB.out GE.out⟩
set_option maxHeartbeats 4000000 in
theorem strconv_FormatUint.inner (n : Nat) (hn : n < 65536) (w : World) (hE : EnvOK w) :
    Calls Tryd.prog 39 #[.int .u64 n, .int .i64 16] w fun e w' => e = .returned (.string ⟨(strconv_FormatUint.digL 5 n).toArray⟩) ∧ Below w.heap.size w w' := by
  have h := fun W => strconv_FormatUint.bits n hn W
  have HB := Aside0.mk (Below.refl w.heap.size w)
  go_enter Tryd.func39, Tryd.ntmps39
  go_wp2_with (go_at_call 51; refine (h _ (EnvOK.step hE (by repeat (first | exact HB.out | apply pw_below_drewN | apply below_drew1)))).mono ?_; rintro e w' ⟨rfl, hb⟩)
  go_ret
  exact ⟨rfl, hb⟩
theorem strconv_FormatUint.calls (a0 : Int) (a1 : Int) (r : ByteArray) (w : World) (hE : EnvOK w) (h : strconv_FormatUint.f a0 a1 = some r) :
    Calls Tryd.prog 32 #[.int .u64 a0, .int .i64 a1] w fun e w' => e = .returned (.string r) ∧ Below w.heap.size w w' := by
  unfold strconv_FormatUint.f at h
  by_cases h1 : a1 = 16
  · rw [if_pos h1] at h
    subst h1
    by_cases h2 : 0 ≤ a0
    · rw [if_pos h2] at h
      by_cases h3 : a0 < 65536
      · rw [if_pos h3] at h
        obtain rfl := Option.some.inj h
        have hi := fun W => strconv_FormatUint.inner a0.toNat (by omega) W
        rw [Int.toNat_of_nonneg h2] at hi
        have HB := Aside0.mk (Below.refl w.heap.size w)
        go_enter Tryd.func32, Tryd.ntmps32
        go_wp2_with (go_at_call 39; refine (hi _ (EnvOK.step hE (by repeat (first | exact HB.out | apply pw_below_drewN | apply below_drew1)))).mono ?_; rintro e w' ⟨rfl, hb⟩)
        go_ret
        exact ⟨rfl, hb⟩
      · rw [if_neg h3] at h; cases h
    · rw [if_neg h2] at h; cases h
  · rw [if_neg h1] at h; cases h


/-! ### ip6_told: function 21 -/
def ip6_told.l0 : Nat → List ByteArray → List Int → Int → Int → Option (ByteArray)
  | 0, _, _, _, _ => none
  | k + 1, x3, x6, x7, x8 => if x8 < x7 then (if 0 ≤ x8 then (if x8 < (x6.length : Int) then ((strconv_FormatUint.f (IntKind.u64.wrap (rd x6 x8)) 16).bind fun t131 => (if x3.length < 8796093022208 then (ip6_told.l0 k (x3 ++ [t131]) x6 x7 (wrap64 (x8 + 1))) else (none))) else (none)) else (none)) else ((strings_Join.f x3 (⟨#[58]⟩ : ByteArray)).bind fun t135 => (some t135))
def ip6_told.f (k : Nat) (l0 : List Int) : Option (ByteArray) := ip6_told.l0 k ([] : List ByteArray) l0 (l0.length : Int) 0
theorem ip6_told.mono_l : ∀ k, (∀ y0 y1 y2 y3, LeO (ip6_told.l0 k y0 y1 y2 y3) (ip6_told.l0 (k + 1) y0 y1 y2 y3))
  | 0 => fun _ _ _ _ r h => by simp [ip6_told.l0] at h
  | k + 1 => by
    have ih0 := ip6_told.mono_l k
    · intro y0 y1 y2 y3
      unfold ip6_told.l0
      repeat' first
      | (with_reducible exact ih0 _ _ _ _)
      | (with_reducible exact LeO.refl _)
      | (with_reducible exact LeO.none _)
      | (with_reducible refine LeO.ite ?_ ?_)
      | (with_reducible refine LeO.bind ?_ (fun _ => ?_))
      | exact ih0 _ _ _ _
      | exact LeO.none _
      | refine LeO.ite ?_ ?_
      | refine LeO.bind ?_ (fun _ => ?_)
theorem ip6_told.mono : ∀ a0 k, LeO (ip6_told.f k a0) (ip6_told.f (k + 1) a0) := by
  intro a0 k
  have ih0 := ip6_told.mono_l k
  unfold ip6_told.f
  repeat' first
      | (with_reducible exact ih0 _ _ _ _)
      | (with_reducible exact LeO.refl _)
      | (with_reducible exact LeO.none _)
      | (with_reducible refine LeO.ite ?_ ?_)
      | (with_reducible refine LeO.bind ?_ (fun _ => ?_))
      | exact ih0 _ _ _ _
      | exact LeO.none _
      | refine LeO.ite ?_ ?_
      | refine LeO.bind ?_ (fun _ => ?_)
set_option maxHeartbeats 8000000 in
set_option maxRecDepth 100000 in
theorem ip6_told.calls (k : Nat) (A0 : Option Addr) (c0 : Nat) (l0 : List Int) (r : ByteArray) (w : World) (hr0 : Kd.C (Kd.int .u16) w A0 l0.length l0) (hc0 : l0.length ≤ c0) (hE : EnvOK w) (h : ip6_told.f k l0 = some r) :
    Calls Tryd.prog 21 #[.slice A0 l0.length c0] w fun e w' => e = .returned (.string r) ∧ Below w.heap.size w w' := by
  have HE := Aside0.mk hE
  clear hE
  have HR0 := Aside0.mk hr0
  have HC0 := Aside0.mk hc0
  clear hr0 hc0
  have HB := Aside0.mk (Below.refl w.heap.size w)
  have H : (ip6_told.l0 k ([] : List ByteArray) l0 (l0.length : Int) 0) = some r := h
  clear h
  have H' := Aside0.mk H
  clear H
  go_enter Tryd.func21, Tryd.ntmps21
  go_wp2
  go_loopg [3, 8] k (fun kq v3 v8 w' => ∃ (x3_1 : List ByteArray) (x8_1 : Int), v8 = .int .i64 x8_1 ∧ Aside0 (ip6_told.l0 kq x3_1 l0 (l0.length : Int) x8_1 = some r) ∧ Aside0 (kq ≤ k) ∧ Aside0 (Kd.R Kd.string 9 w' w.heap.size (fun _ => True) v3 x3_1) ∧ Aside0 (Below w.heap.size w w'))
  case atStart => exact ⟨(([] : List ByteArray)), (0), (by first | rfl | (simp; done) | (simp [*]; done)), H', ⟨Nat.le_refl _⟩, ⟨by first | exact Kd.R_nil _ _ _ _ _ | exact Kd.N_nil _ _ _ _ _ | exact Kd.V_nil _ _ _ _ _ | exact Kd.Q_nil _ _ _ _ _ | exact Kd.S_nil _ _ _ _ _⟩, ⟨by repeat (first | (with_reducible first | exact HB.out | apply below_alloc | apply pw_below_drewN | apply below_drew1) | exact HB.out)⟩⟩
  case round =>
    clear H'
    obtain ⟨x3_1, x8_1, rfl, HA, HK1, HO_3, HB⟩ := hrel
    cases gk with
    | zero => exact absurd HA.out (by simp [ip6_told.l0])
    | succ k1 =>
      have H := HA.out
      clear HA
      simp only [ip6_told.l0] at H
      by_cases c2 : x8_1 < (l0.length : Int)
      · rw [if_pos c2] at H
        have c2b0 : decide (x8_1 < (l0.length : Int)) = true := decide_eq_true c2
        clear c2
        by_cases c3 : 0 ≤ x8_1
        · rw [if_pos c3] at H
          have c3b0 : decide (0 ≤ x8_1) = true := decide_eq_true c3
          clear c3
          by_cases c4 : x8_1 < (l0.length : Int)
          · rw [if_pos c4] at H
            have c4b0 : decide (x8_1 < (l0.length : Int)) = true := decide_eq_true c4
            clear c4
            replace H := Option.bind_eq_some_iff.mp H
            obtain ⟨t131, A50, H⟩ := H
            replace H : (if x3_1.length < 8796093022208 then (ip6_told.l0 k1 (x3_1 ++ [t131]) l0 (l0.length : Int) (wrap64 (x8_1 + 1))) else (none)) = some r := H
            have A5 := Aside0.mk A50
            clear A50
            by_cases c6 : x3_1.length < 8796093022208
            · rw [if_pos c6] at H
              have LMc6 := Aside0.mk c6
              clear c6
              obtain ⟨y132, hy132⟩ : ∃ y_ : List ByteArray, y_ = (x3_1 ++ [t131]) := ⟨_, rfl⟩
              replace H : (ip6_told.l0 k1 y132 l0 (l0.length : Int) (wrap64 (x8_1 + 1))) = some r := by first | (rw [hy132]; with_reducible exact H) | (have H2_ := (Option.bind_some _ _).symm.trans H; rw [hy132]; with_reducible exact H2_) | (have H2_ := (Option.bind_some _ _).symm.trans H; with_reducible exact H2_) | with_reducible exact H | (rw [hy132]; exact H) | exact H
              have Ny132 := Aside0.mk hy132
              clear hy132
              have H' := Aside0.mk H
              clear H
              have p130 : 0 ≤ (x8_1 : Int) := of_decide_eq_true (by first | (with_reducible assumption) | assumption)
              have q130 : x8_1 < (l0.length : Int) := of_decide_eq_true (by first | (with_reducible assumption) | assumption)
              obtain ⟨ad130, e130, hx130_0⟩ := Kd.at_int HR0.out x8_1 p130 q130
              cases e130
              replace hx130_0 := (HB.out.cell (World.block_lt_of_cell? w _ hx130_0)).trans hx130_0
              replace p130 := eq_true p130
              replace q130 := eq_true q130
              go_wp2_with (first | ((with_reducible refine gate_callee (f := 32) rfl ?_); refine goesL_ (some 15) rfl rfl Tryd.func32 (by kernel_rfl) rfl #[.int .u64 (IntKind.u64.wrap (rd l0 x8_1)), .int .i64 16] rfl (by (try simp only [List.map_toArray, List.map_cons, List.map_nil]); first | done | rfl | (simp only [List.length_drop, List.length_take]; rfl)) ?_; (with_reducible refine (strconv_FormatUint.calls (IntKind.u64.wrap (rd l0 x8_1)) 16 t131 _ ?side1 A5.out).mono ?_); (case side1 => exact EnvOK.step HE.out (by repeat (first | (with_reducible first | exact HB.out | apply below_alloc | apply pw_below_drewN | apply below_drew1) | exact HB.out))); rintro e w7 ⟨rfl, hb⟩; refine ⟨_, rfl, ?_⟩; have n0_ := Aside0.mk (Kd.R_below (by (with_reducible repeat (first | apply Kd.R_alloc | apply Kd.R_drewN | apply Kd.R_drew)); exact HO_3.out) hb); have n1_ := Aside0.mk (below_step (by repeat (first | (with_reducible first | exact HB.out | apply below_alloc | apply pw_below_drewN | apply below_drew1) | exact HB.out)) hb); clear HO_3; clear HB; have HO_3 := n0_; have HB := n1_; clear n0_ n1_; (try clear hb); (try clear hb2); (try clear hk); (try clear hi)) | ((with_reducible refine gate_builtin (b := .append) (xs := #[.tmp 12, .tmp 16]) rfl ?_); at_builtin; refine Kd.R_append Kd.string (w0 := w) w.heap.size rfl (.tmp 12) (.tmp 16) 37 9 (.string ⟨#[]⟩) 16 rfl Tryd.underlying37 info9 rfl (by decide) (by omega) u3 x3_1 t131 [.string t131] (fun _ => True) (fun _ => False) rfl rfl ?aP (fun _ hk => hk.elim) ?aF ?aO ?aB ?aS ?aL ?_; (case aP => exact rfl); (case aB => exact (by repeat (first | (with_reducible first | exact HB.out | apply below_alloc | apply pw_below_drewN | apply below_drew1) | exact HB.out))); (case aF => exact (fun _ _ => trivial)); (case aO => exact (by (with_reducible repeat (first | apply Kd.R_alloc | apply Kd.R_drewN | apply Kd.R_drew)); exact HO_3.out)); (case aS => exact (below_size (by repeat (first | (with_reducible first | exact HB.out | apply below_alloc | apply pw_below_drewN | apply below_drew1) | exact HB.out)))); (case aL => have := LMc6.out; omega); intro v133 w8 ho hb hg hat; rw [← Ny132.out] at ho; have n0_ := Aside0.mk (hb); have n1_ := Aside0.mk (ho); clear HB; clear HO_3; have HB := n0_; have HO134 := n1_; clear n0_ n1_; clear ho hb hg hat))
              go_roundg k1
              case measure => have := HK1.out; omega
              case rel => exact ⟨(y132), (wrap64 (x8_1 + 1)), (by first | rfl | (simp; done) | (simp [*]; done)), H', ⟨by have := HK1.out; omega⟩, ⟨by (with_reducible repeat (first | apply Kd.R_alloc | apply Kd.R_drewN | apply Kd.R_drew)); exact HO134.out⟩, ⟨by repeat (first | (with_reducible first | exact HB.out | apply below_alloc | apply pw_below_drewN | apply below_drew1) | exact HB.out)⟩⟩
            · rw [if_neg c6] at H
              exact absurd H (by simp)
          · rw [if_neg c4] at H
            exact absurd H (by simp)
        · rw [if_neg c3] at H
          exact absurd H (by simp)
      · rw [if_neg c2] at H
        have c2b0 : decide (x8_1 < (l0.length : Int)) = false := decide_eq_false c2
        clear c2
        replace H := Option.bind_eq_some_iff.mp H
        obtain ⟨t135, A90, H⟩ := H
        replace H : (some t135) = some r := H
        have A9 := Aside0.mk A90
        clear A90
        obtain rfl := Option.some.inj H
        obtain ⟨Ao10, co10, eo10⟩ := Kd.R_slice HO_3.out
        subst eo10
        go_wp2_with (first | ((with_reducible refine gate_callee (f := 33) rfl ?_); refine goesL_ (some 20) rfl rfl Tryd.func33 (by kernel_rfl) rfl #[.slice Ao10 x3_1.length co10, .string (⟨#[58]⟩ : ByteArray)] rfl (by (try simp only [List.map_toArray, List.map_cons, List.map_nil]); first | done | rfl | (simp only [List.length_drop, List.length_take]; rfl)) ?_; (with_reducible refine (strings_Join.calls _ _ x3_1 (⟨#[58]⟩ : ByteArray) t135 _ ?side1 ?side2 A9.out).mono ?_); (case side1 => repeat (first | exact (Kd.R_reads' HO_3.out).2.2 | (with_reducible refine Kd.C_alloc ?_ _) | (with_reducible refine Kd.C_drewN ?_ _) | (with_reducible refine Kd.C_drew ?_))); (case side2 => exact (Kd.R_reads' HO_3.out).2.1); rintro e w11 ⟨rfl, hb⟩; refine ⟨_, rfl, ?_⟩; have n0_ := Aside0.mk (Kd.R_below (by (with_reducible repeat (first | apply Kd.R_alloc | apply Kd.R_drewN | apply Kd.R_drew)); exact HO_3.out) hb); have n1_ := Aside0.mk (below_step (by repeat (first | (with_reducible first | exact HB.out | apply below_alloc | apply pw_below_drewN | apply below_drew1) | exact HB.out)) hb); clear HO_3; clear HB; have HO_3 := n0_; have HB := n1_; clear n0_ n1_; (try clear hb); (try clear hb2); (try clear hk); (try clear hi)))
        go_ret
        exact ⟨by first | rfl | (simp [errW_none, errW_some] <;> rfl) | (simp [*, errW_none, errW_some] <;> rfl), by repeat (first | (with_reducible first | exact HB.out | apply below_alloc | apply pw_below_drewN | apply below_drew1) | exact HB.out)⟩

/-! ### ip6_Show: function 10 (given) -/
def ip6_Show.f (k : Nat) (a0_0 a0_1 a0_2 a0_3 a0_4 a0_5 a0_6 a0_7 : Int) : Option ByteArray := (ip6_row.f k a0_0 a0_1 a0_2 a0_3 a0_4 a0_5 a0_6 a0_7).bind fun t => if t.2 = 0 then ip6_told.f k ([a0_0, a0_1, a0_2, a0_3, a0_4, a0_5, a0_6, a0_7] : List Int) else if 0 ≤ t.1 ∧ 0 ≤ t.2 ∧ t.1 + t.2 ≤ 8 then (ip6_told.f k (([a0_0, a0_1, a0_2, a0_3, a0_4, a0_5, a0_6, a0_7] : List Int).take t.1.toNat)).bind fun s => (ip6_told.f k (([a0_0, a0_1, a0_2, a0_3, a0_4, a0_5, a0_6, a0_7] : List Int).drop (t.1.toNat + t.2.toNat))).bind fun u => if s.size + 2 + u.size ≤ 9223372036854775807 then some (s ++ (⟨#[58, 58]⟩ : ByteArray) ++ u) else none else none
theorem ip6_Show.mono : ∀ a0_0 a0_1 a0_2 a0_3 a0_4 a0_5 a0_6 a0_7 k, LeO (ip6_Show.f k a0_0 a0_1 a0_2 a0_3 a0_4 a0_5 a0_6 a0_7) (ip6_Show.f (k + 1) a0_0 a0_1 a0_2 a0_3 a0_4 a0_5 a0_6 a0_7) := by
  intro a0_0 a0_1 a0_2 a0_3 a0_4 a0_5 a0_6 a0_7 k
  unfold ip6_Show.f
  refine LeO.bind (ip6_row.mono _ _ _ _ _ _ _ _ _) (fun t => LeO.ite (ip6_told.mono _ _) (LeO.ite (LeO.bind (ip6_told.mono _ _) (fun s => LeO.bind (ip6_told.mono _ _) (fun u => LeO.refl _))) (LeO.refl _)))
set_option maxHeartbeats 4000000 in
set_option maxRecDepth 100000 in
theorem ip6_Show.calls (k : Nat) (a0_0 a0_1 a0_2 a0_3 a0_4 a0_5 a0_6 a0_7 : Int) (r : ByteArray) (w : World) (hE : EnvOK w) (h : ip6_Show.f k a0_0 a0_1 a0_2 a0_3 a0_4 a0_5 a0_6 a0_7 = some r) :
    Calls Tryd.prog 10 #[.agg #[.int .u16 a0_0, .int .u16 a0_1, .int .u16 a0_2, .int .u16 a0_3, .int .u16 a0_4, .int .u16 a0_5, .int .u16 a0_6, .int .u16 a0_7]] w fun e w' => e = .returned (.string r) ∧ Below w.heap.size w w' := by
  have hu24 := Tryd.underlying24
  have HB := Aside0.mk (Below.refl w.heap.size w)
  unfold ip6_Show.f at h
  obtain ⟨⟨from_, long⟩, hrow, h⟩ := Option.bind_eq_some_iff.mp h
  have hR := fun W => ip6_row.calls k a0_0 a0_1 a0_2 a0_3 a0_4 a0_5 a0_6 a0_7 from_ long W hrow
  have BOXX : True := trivial
  by_cases h0 : long = 0
  · rw [if_pos h0] at h
    subst h0
    have ht : ∀ (W : World) (gb : Nat), W.heap[gb]? = some (.cells #[.int .u16 a0_0, .int .u16 a0_1, .int .u16 a0_2, .int .u16 a0_3, .int .u16 a0_4, .int .u16 a0_5, .int .u16 a0_6, .int .u16 a0_7] 24 (0, 0)) → EnvOK W → Calls Tryd.prog 21 #[.slice (some ⟨gb, 0, none⟩) 8 8] W fun e w' => e = .returned (.string r) ∧ Below W.heap.size W w' := fun W gb hb hE2 =>
      ip6_told.calls k (some ⟨gb, 0, none⟩) 8 ([a0_0, a0_1, a0_2, a0_3, a0_4, a0_5, a0_6, a0_7] : List Int) r W (YtcpfhnodbgojaaaDoorR.arr_C (lo := 0) (n := 8) (ps := ([a0_0, a0_1, a0_2, a0_3, a0_4, a0_5, a0_6, a0_7] : List Int)) hb (by simp) (by simp)) (by simp) hE2 h
    clear h hrow
    go_enter Tryd.func10, Tryd.ntmps10
    have hsl := fun gb W => YtcpfhnodbgojaaaDoorR.sl_all gb W
    go_wp2_with (first | ((with_reducible refine gate_dst (N := 1) rfl ?_); refine box_event ?hg (N := 1) ?hd (cs := #[.int .u16 a0_0, .int .u16 a0_1, .int .u16 a0_2, .int .u16 a0_3, .int .u16 a0_4, .int .u16 a0_5, .int .u16 a0_6, .int .u16 a0_7]) (t := 24) ?hr ?_; (case hd => rfl); (case hg => rfl); (case hr => first | (go_simp; done) | (go_simp; rfl)); intro gb hg w2 hbox hb; have n0_ := Aside0.mk (below_step HB.out hb); have BK := Aside0.mk hbox; clear HB; have HB := n0_; clear n0_ hb hbox hg) | ((with_reducible refine gate_dst (N := 6) rfl ?_); (with_reducible refine gate_load (t := 24) (p := 1) (N := 6) rfl rfl ?_); refine load_event (t := 24) (p := 1) (g := gb) (T := 24) (cs := #[.int .u16 a0_0, .int .u16 a0_1, .int .u16 a0_2, .int .u16 a0_3, .int .u16 a0_4, .int .u16 a0_5, .int .u16 a0_6, .int .u16 a0_7]) ?hg ?ho ?hp ?hb hu24 rfl ?hi ?_; (case ho => rfl); (case hg => rfl); (case hp => rfl); (case hb => exact BK.out); (case hi => kernel_rfl)) | (go_at_call 20; refine (hR _).mono ?_; rintro e w3 ⟨rfl, hb⟩; have n0_ := Aside0.mk (blk_below BK.out hb); have n1_ := Aside0.mk (below_step HB.out hb); clear BK HB hb; have BK := n0_; have HB := n1_; clear n0_ n1_) | (go_at_call 21; refine (ht _ gb BK.out (EnvOK.step hE HB.out)).mono ?_; rintro e w4 ⟨rfl, hb⟩; have n1_ := Aside0.mk (below_step HB.out hb); clear HB; have HB := n1_; clear n1_))
    go_ret
    exact ⟨rfl, by repeat (first | exact HB.out | apply pw_below_drewN | apply below_drew1)⟩
  · rw [if_neg h0] at h
    have b0 : (long == 0) = false := beq_eq_false_iff_ne.mpr h0
    by_cases hc : 0 ≤ from_ ∧ 0 ≤ long ∧ from_ + long ≤ 8
    · rw [if_pos hc] at h
      obtain ⟨s, hs, h⟩ := Option.bind_eq_some_iff.mp h
      obtain ⟨u, hu, h⟩ := Option.bind_eq_some_iff.mp h
      by_cases hz : s.size + 2 + u.size ≤ 9223372036854775807
      rotate_left
      · rw [if_neg hz] at h; cases h
      rw [if_pos hz] at h
      obtain rfl := Option.some.inj h
      obtain ⟨c1, c2, c3⟩ := hc
      obtain ⟨fn, hfn⟩ : ∃ fn : Nat, from_ = (fn : Int) := ⟨from_.toNat, by omega⟩
      obtain ⟨ln, hln⟩ : ∃ ln : Nat, long = (ln : Int) := ⟨long.toNat, by omega⟩
      subst hfn hln
      simp only [Int.toNat_natCast] at hs hu
      have hadd : wrap64 ((fn : Int) + (ln : Int)) = (fn : Int) + (ln : Int) := by unfold wrap64; omega
      have q1 : (9223372036854775807 < s.size + 2) = False := eq_false (by omega)
      have q2 : (9223372036854775807 < s.size + 2 + u.size) = False := eq_false (by omega)
      have q3 : (9223372036854775807 < (s ++ (⟨#[58, 58]⟩ : ByteArray)).size + u.size) = False := eq_false (by rw [ByteArray.size_append]; show ¬ _ < s.size + 2 + u.size; omega)
      have ht1' : ∀ (W : World) (gb : Nat), W.heap[gb]? = some (.cells #[.int .u16 a0_0, .int .u16 a0_1, .int .u16 a0_2, .int .u16 a0_3, .int .u16 a0_4, .int .u16 a0_5, .int .u16 a0_6, .int .u16 a0_7] 24 (0, 0)) → EnvOK W → Calls Tryd.prog 21 #[.slice (some ⟨gb, 0, none⟩) fn 8] W fun e w' => e = .returned (.string s) ∧ Below W.heap.size W w' := fun W gb hb hE2 => by
        have hl : (([a0_0, a0_1, a0_2, a0_3, a0_4, a0_5, a0_6, a0_7] : List Int).take fn).length = fn := by simp; omega
        have := ip6_told.calls k (some ⟨gb, 0, none⟩) 8 (([a0_0, a0_1, a0_2, a0_3, a0_4, a0_5, a0_6, a0_7] : List Int).take fn) s W (by rw [hl]; exact YtcpfhnodbgojaaaDoorR.arr_C (lo := 0) (n := fn) (ps := ([a0_0, a0_1, a0_2, a0_3, a0_4, a0_5, a0_6, a0_7] : List Int)) hb (by simp; omega) (by simp)) (by omega) hE2 hs
        rwa [hl] at this
      have ht2' : ∀ gb : Nat, ∃ A2 n2, (∀ W : World, (Instr.sliceAt 24 (.pointer (some ⟨gb, 0, none⟩)) (some (.int .i64 ((fn : Int) + (ln : Int)))) none none).run Tryd.prog W = .ok (.slice (some A2) n2 n2) W) ∧ ∀ W : World, W.heap[gb]? = some (.cells #[.int .u16 a0_0, .int .u16 a0_1, .int .u16 a0_2, .int .u16 a0_3, .int .u16 a0_4, .int .u16 a0_5, .int .u16 a0_6, .int .u16 a0_7] 24 (0, 0)) → EnvOK W → Calls Tryd.prog 21 #[.slice (some A2) n2 n2] W fun e w' => e = .returned (.string u) ∧ Below W.heap.size W w' := fun gb => by
        have hl : (([a0_0, a0_1, a0_2, a0_3, a0_4, a0_5, a0_6, a0_7] : List Int).drop (fn + ln)).length = 8 - (fn + ln) := by simp
        rw [show (fn : Int) + (ln : Int) = ((fn + ln : Nat) : Int) by omega]
        by_cases h8 : fn + ln < 8
        · refine ⟨_, _, YtcpfhnodbgojaaaDoorR.sl_low gb (fn + ln) h8, fun W hb hE2 => ?_⟩
          have hC := YtcpfhnodbgojaaaDoorR.arr_C (lo := fn + ln) (n := 8 - (fn + ln)) (ps := ([a0_0, a0_1, a0_2, a0_3, a0_4, a0_5, a0_6, a0_7] : List Int)) hb (by simp; omega) (by simp)
          rw [List.take_of_length_le (by omega)] at hC
          have := ip6_told.calls k (some ⟨gb, fn + ln, none⟩) (8 - (fn + ln)) (([a0_0, a0_1, a0_2, a0_3, a0_4, a0_5, a0_6, a0_7] : List Int).drop (fn + ln)) u W (by rw [hl]; exact hC) (by omega) hE2 hu
          rwa [hl] at this
        · have e8 : fn + ln = 8 := by omega
          rw [e8] at hu ⊢
          refine ⟨_, _, YtcpfhnodbgojaaaDoorR.sl_low8 gb, fun W hb hE2 => ?_⟩
          exact ip6_told.calls k (some ⟨gb, 0, none⟩) 0 [] u W (YtcpfhnodbgojaaaDoorR.arr_C0 _) (by simp) hE2 hu
      clear h hrow hs hu
      go_enter Tryd.func10, Tryd.ntmps10
      go_wp2_with (first | ((with_reducible refine gate_dst (N := 1) rfl ?_); refine box_event ?hg (N := 1) ?hd (cs := #[.int .u16 a0_0, .int .u16 a0_1, .int .u16 a0_2, .int .u16 a0_3, .int .u16 a0_4, .int .u16 a0_5, .int .u16 a0_6, .int .u16 a0_7]) (t := 24) ?hr ?_; (case hd => rfl); (case hg => rfl); (case hr => first | (go_simp; done) | (go_simp; rfl)); intro gb hg w2 hbox hb; have n0_ := Aside0.mk (below_step HB.out hb); have BK := Aside0.mk hbox; clear HB; have HB := n0_; clear n0_ hb hbox hg) | ((with_reducible refine gate_dst (N := 6) rfl ?_); (with_reducible refine gate_load (t := 24) (p := 1) (N := 6) rfl rfl ?_); refine load_event (t := 24) (p := 1) (g := gb) (T := 24) (cs := #[.int .u16 a0_0, .int .u16 a0_1, .int .u16 a0_2, .int .u16 a0_3, .int .u16 a0_4, .int .u16 a0_5, .int .u16 a0_6, .int .u16 a0_7]) ?hg ?ho ?hp ?hb hu24 rfl ?hi ?_; (case ho => rfl); (case hg => rfl); (case hp => rfl); (case hb => exact BK.out); (case hi => kernel_rfl)) | (go_at_call 20; refine (hR _).mono ?_; rintro e w3 ⟨rfl, hb⟩; have n0_ := Aside0.mk (blk_below BK.out hb); have n1_ := Aside0.mk (below_step HB.out hb); clear BK HB hb; have BK := n0_; have HB := n1_; clear n0_ n1_))
      have hsl1 := YtcpfhnodbgojaaaDoorR.sl_high gb fn (by omega)
      obtain ⟨A2, n2, hsl2, ht2⟩ := ht2' gb
      have ht1 := fun W => ht1' W gb
      clear ht1' ht2'
      have n0_ := Aside0.mk (blk_drew BK.out)
      have n1_ := Aside0.mk (below_drew1 HB.out)
      clear BK HB
      have BK := n0_
      have HB := n1_
      clear n0_ n1_
      refine start_ (n := 11) (S := fun _ => True) (ds := []) #[false, false, false, false, false, false, false, false, false, false, false] (by kernel_rfl) rfl rfl trivial (fun hHeld => ?_)
      generalize w3.drew = w5 at BK HB hHeld ⊢
      refine pure_ (i := 0) (N := some 14) (v := ?_) (a' := ?_) #[true, false, false, false, false, false, false, false, false, false, false] rfl rfl (by kernel_rfl) (fun _ _ _ h => h) (Or.inl ⟨by rfl, ?_⟩) ?_ ?_
      rotate_left
      · intro w'
        go_simp
        first | with_reducible rfl | rfl
      rotate_left
      · simp only [Act.put, List.setIfInBounds_toArray, List.set_cons_zero, List.set_cons_succ, i64_w, i32_w]
        rfl
      refine pure_ (i := 1) (N := some 15) (v := ?_) (a' := ?_) #[true, true, false, false, false, false, false, false, false, false, false] rfl rfl (by kernel_rfl) (fun _ _ _ h => h) (Or.inl ⟨by rfl, ?_⟩) ?_ ?_
      rotate_left
      · intro w'
        go_simp
        first | with_reducible rfl | rfl
      rotate_left
      · simp only [Act.put, List.setIfInBounds_toArray, List.set_cons_zero, List.set_cons_succ, i64_w, i32_w]
        rfl
      refine pure_ (i := 4) (N := some 18) (v := ?_) (a' := ?_) #[true, true, false, false, true, false, false, false, false, false, false] rfl rfl (by kernel_rfl) (fun _ _ _ h => h) (Or.inl ⟨by rfl, ?_⟩) ?_ ?_
      rotate_left
      · intro w'
        go_simp
        first | with_reducible rfl | rfl
      rotate_left
      · simp only [Act.put, List.setIfInBounds_toArray, List.set_cons_zero, List.set_cons_succ, i64_w, i32_w]
        rfl
      refine pure_ (i := 5) (N := some 19) (v := ?_) (a' := ?_) #[true, true, false, false, true, true, false, false, false, false, false] rfl rfl (by kernel_rfl) (fun _ _ _ h => h) (Or.inl ⟨by rfl, ?_⟩) ?_ ?_
      rotate_left
      · intro w'
        go_simp
        first | with_reducible rfl | rfl
      rotate_left
      · simp only [Act.put, List.setIfInBounds_toArray, List.set_cons_zero, List.set_cons_succ, i64_w, i32_w]
        rfl
      refine pure_ (i := 6) (N := some 20) (v := ?_) (a' := ?_) #[true, true, false, false, true, true, true, false, false, false, false] rfl rfl (by kernel_rfl) (fun _ _ _ h => h) (Or.inl ⟨by rfl, ?_⟩) ?_ ?_
      rotate_left
      · intro w'
        go_simp
        first | with_reducible rfl | rfl
      rotate_left
      · simp only [Act.put, List.setIfInBounds_toArray, List.set_cons_zero, List.set_cons_succ, i64_w, i32_w]
        rfl
      refine pure_ (i := 7) (N := some 21) (v := ?_) (a' := ?_) #[true, true, false, false, true, true, true, true, false, false, false] rfl rfl (by kernel_rfl) (fun _ _ _ h => h) (Or.inl ⟨by rfl, ?_⟩) ?_ ?_
      rotate_left
      · intro w'
        go_simp
        first | with_reducible rfl | rfl
      rotate_left
      · simp only [Act.put, List.setIfInBounds_toArray, List.set_cons_zero, List.set_cons_succ, i64_w, i32_w]
        rfl
      refine one_ (i := 2) (N := some 16) #[true, true, true, false, true, true, true, true, false, false, false] rfl rfl (by kernel_rfl) (by decide) (fun K hK => ?_)
      refine goes_ Tryd.func21 (by kernel_rfl) rfl #[.slice (some ⟨gb, 0, none⟩) fn 8] (by rfl) rfl rfl (by (try simp only [List.map_toArray, List.map_cons, List.map_nil]); first | done | rfl) ?_
      refine (ht1 _ BK.out (EnvOK.step hE HB.out)).mono ?_
      rintro e w3 ⟨rfl, hb⟩
      refine ⟨_, rfl, ?_⟩
      have n0_ := Aside0.mk (blk_below BK.out hb)
      have n1_ := Aside0.mk (below_step HB.out hb)
      clear BK HB hb
      have BK := n0_
      have HB := n1_
      clear n0_ n1_
      refine hK.out _ _ trivial (fun hHeld => ?_)
      clear hK K
      refine norm_ (a' := ?_) ?_ ?_
      rotate_left
      · show Act.put _ (some 16) _ = _
        simp only [Act.put, List.setIfInBounds_toArray, List.set_cons_zero, List.set_cons_succ, i64_w, i32_w]
        rfl
      refine pure_ (i := 3) (N := some 17) (v := ?_) (a' := ?_) #[true, true, true, true, true, true, true, true, false, false, false] rfl rfl (by kernel_rfl) (fun _ _ _ h => h) (Or.inl ⟨by rfl, ?_⟩) ?_ ?_
      rotate_left
      · intro w'
        go_simp
        first | with_reducible rfl | rfl
      rotate_left
      · simp only [Act.put, List.setIfInBounds_toArray, List.set_cons_zero, List.set_cons_succ, i64_w, i32_w]
        rfl
      refine one_ (i := 8) (N := some 22) #[true, true, true, true, true, true, true, true, true, false, false] rfl rfl (by kernel_rfl) (by decide) (fun K hK => ?_)
      refine goes_ Tryd.func21 (by kernel_rfl) rfl #[.slice (some A2) n2 n2] (by rfl) rfl rfl (by (try simp only [List.map_toArray, List.map_cons, List.map_nil]); first | done | rfl) ?_
      refine (ht2 _ BK.out (EnvOK.step hE HB.out)).mono ?_
      rintro e w4 ⟨rfl, hb⟩
      refine ⟨_, rfl, ?_⟩
      have n0_ := Aside0.mk (blk_below BK.out hb)
      have n1_ := Aside0.mk (below_step HB.out hb)
      clear BK HB hb
      have BK := n0_
      have HB := n1_
      clear n0_ n1_
      refine hK.out _ _ trivial (fun hHeld => ?_)
      clear hK K
      refine norm_ (a' := ?_) ?_ ?_
      rotate_left
      · show Act.put _ (some 22) _ = _
        simp only [Act.put, List.setIfInBounds_toArray, List.set_cons_zero, List.set_cons_succ, i64_w, i32_w]
        rfl
      refine pure_ (i := 9) (N := some 23) (v := ?_) (a' := ?_) #[true, true, true, true, true, true, true, true, true, true, false] rfl rfl (by kernel_rfl) (fun _ _ _ h => h) (Or.inl ⟨by rfl, ?_⟩) ?_ ?_
      rotate_left
      · intro w'
        go_simp
        first | with_reducible rfl | rfl
      rotate_left
      · simp only [Act.put, List.setIfInBounds_toArray, List.set_cons_zero, List.set_cons_succ, i64_w, i32_w]
        rfl
      refine pure_ (i := 10) (N := some 2) (v := ?_) (a' := ?_) #[true, true, true, true, true, true, true, true, true, true, true] rfl rfl (by kernel_rfl) (fun _ _ _ h => h) (Or.inl ⟨by rfl, ?_⟩) ?_ ?_
      rotate_left
      · intro w'
        go_simp
        first | with_reducible rfl | rfl
      rotate_left
      · simp only [Act.put, List.setIfInBounds_toArray, List.set_cons_zero, List.set_cons_succ, i64_w, i32_w]
        rfl
      refine done_ (by kernel_rfl) ?_
      go_wp2
      go_ret
      exact ⟨rfl, by repeat (first | exact HB.out | apply pw_below_drewN | apply below_drew1)⟩
    · rw [if_neg hc] at h; cases h



/-! ### gossamerlaw9_awake: function 7 -/
def gossamerlaw9_awake.f (k : Nat)  : Option (Bool) := (ip6_Parse.f k (⟨#[49, 58, 48, 58, 48, 58, 58, 50, 46, 51, 46, 52, 46, 53]⟩ : ByteArray)).bind fun bt136 => ((ip6_Parse.f k (⟨#[49, 58, 50, 58, 51, 58, 52, 58, 53, 58, 54, 58, 55, 58, 56, 58, 58]⟩ : ByteArray)).bind fun bt146 => (if bt136.2.2.2.2.2.2.2.2 = true then (if (bt136.1 == 1 && (bt136.2.1 == 0 && (bt136.2.2.1 == 0 && (bt136.2.2.2.1 == 0 && (bt136.2.2.2.2.1 == 0 && (bt136.2.2.2.2.2.1 == 0 && (bt136.2.2.2.2.2.2.1 == 515 && (bt136.2.2.2.2.2.2.2.1 == 1029)))))))) = true then (if bt146.2.2.2.2.2.2.2.2 = true then (none) else ((ip6_Show.f k bt136.1 bt136.2.1 bt136.2.2.1 bt136.2.2.2.1 bt136.2.2.2.2.1 bt136.2.2.2.2.2.1 bt136.2.2.2.2.2.2.1 bt136.2.2.2.2.2.2.2.1).bind fun t156 => (some (t156.toList == ([49, 58, 58, 50, 48, 51, 58, 52, 48, 53] : List UInt8))))) else (none)) else (none)))
theorem gossamerlaw9_awake.mono : ∀ k, LeO (gossamerlaw9_awake.f k ) (gossamerlaw9_awake.f (k + 1) ) := by
  intro  k
  unfold gossamerlaw9_awake.f
  repeat' first
      | (with_reducible exact ip6_Parse.mono _ _)
      | (with_reducible exact ip6_Show.mono _ _ _ _ _ _ _ _ _)
      | (with_reducible exact LeO.refl _)
      | (with_reducible exact LeO.none _)
      | (with_reducible refine LeO.ite ?_ ?_)
      | (with_reducible refine LeO.bind ?_ (fun _ => ?_))
      | exact ip6_Parse.mono _ _
      | exact ip6_Show.mono _ _ _ _ _ _ _ _ _
      | exact LeO.none _
      | refine LeO.ite ?_ ?_
      | refine LeO.bind ?_ (fun _ => ?_)
set_option maxHeartbeats 8000000 in
set_option maxRecDepth 100000 in
theorem gossamerlaw9_awake.calls (k : Nat)  (r : Bool) (w : World) (hE : EnvOK w) (h : gossamerlaw9_awake.f k  = some r) :
    Calls Tryd.prog 7 #[] w fun e w' => e = .returned (.bool r) ∧ Below w.heap.size w w' := by
  have hu24 := Tryd.underlying24
  have HE := Aside0.mk hE
  clear hE
  have HB := Aside0.mk (Below.refl w.heap.size w)
  have H : ((ip6_Parse.f k (⟨#[49, 58, 48, 58, 48, 58, 58, 50, 46, 51, 46, 52, 46, 53]⟩ : ByteArray)).bind fun bt136 => ((ip6_Parse.f k (⟨#[49, 58, 50, 58, 51, 58, 52, 58, 53, 58, 54, 58, 55, 58, 56, 58, 58]⟩ : ByteArray)).bind fun bt146 => (if bt136.2.2.2.2.2.2.2.2 = true then (if (bt136.1 == 1 && (bt136.2.1 == 0 && (bt136.2.2.1 == 0 && (bt136.2.2.2.1 == 0 && (bt136.2.2.2.2.1 == 0 && (bt136.2.2.2.2.2.1 == 0 && (bt136.2.2.2.2.2.2.1 == 515 && (bt136.2.2.2.2.2.2.2.1 == 1029)))))))) = true then (if bt146.2.2.2.2.2.2.2.2 = true then (none) else ((ip6_Show.f k bt136.1 bt136.2.1 bt136.2.2.1 bt136.2.2.2.1 bt136.2.2.2.2.1 bt136.2.2.2.2.2.1 bt136.2.2.2.2.2.2.1 bt136.2.2.2.2.2.2.2.1).bind fun t156 => (some (t156.toList == ([49, 58, 58, 50, 48, 51, 58, 52, 48, 53] : List UInt8))))) else (none)) else (none)))) = some r := h
  clear h
  replace H := Option.bind_eq_some_iff.mp H
  obtain ⟨⟨t136, t137, t138, t139, t140, t141, t142, t143, t144⟩, A10, H⟩ := H
  replace H : ((ip6_Parse.f k (⟨#[49, 58, 50, 58, 51, 58, 52, 58, 53, 58, 54, 58, 55, 58, 56, 58, 58]⟩ : ByteArray)).bind fun bt146 => (if t144 = true then (if (t136 == 1 && (t137 == 0 && (t138 == 0 && (t139 == 0 && (t140 == 0 && (t141 == 0 && (t142 == 515 && (t143 == 1029)))))))) = true then (if bt146.2.2.2.2.2.2.2.2 = true then (none) else ((ip6_Show.f k t136 t137 t138 t139 t140 t141 t142 t143).bind fun t156 => (some (t156.toList == ([49, 58, 58, 50, 48, 51, 58, 52, 48, 53] : List UInt8))))) else (none)) else (none))) = some r := H
  have A1 := Aside0.mk A10
  clear A10
  replace H := Option.bind_eq_some_iff.mp H
  obtain ⟨⟨t146, t147, t148, t149, t150, t151, t152, t153, t154⟩, A20, H⟩ := H
  replace H : (if t144 = true then (if (t136 == 1 && (t137 == 0 && (t138 == 0 && (t139 == 0 && (t140 == 0 && (t141 == 0 && (t142 == 515 && (t143 == 1029)))))))) = true then (if t154 = true then (none) else ((ip6_Show.f k t136 t137 t138 t139 t140 t141 t142 t143).bind fun t156 => (some (t156.toList == ([49, 58, 58, 50, 48, 51, 58, 52, 48, 53] : List UInt8))))) else (none)) else (none)) = some r := H
  have A2 := Aside0.mk A20
  clear A20
  by_cases c3 : t144 = true
  · subst c3
    have H1 : (if (t136 == 1 && (t137 == 0 && (t138 == 0 && (t139 == 0 && (t140 == 0 && (t141 == 0 && (t142 == 515 && (t143 == 1029)))))))) = true then (if t154 = true then (none) else ((ip6_Show.f k t136 t137 t138 t139 t140 t141 t142 t143).bind fun t156 => (some (t156.toList == ([49, 58, 58, 50, 48, 51, 58, 52, 48, 53] : List UInt8))))) else (none)) = some r := by rw [if_pos rfl] at H; exact H
    clear H
    have H := H1
    clear H1
    by_cases c4 : (t136 == 1 && (t137 == 0 && (t138 == 0 && (t139 == 0 && (t140 == 0 && (t141 == 0 && (t142 == 515 && (t143 == 1029)))))))) = true
    · rw [if_pos c4] at H
      have c4b0 : (t136 == 1 && (t137 == 0 && (t138 == 0 && (t139 == 0 && (t140 == 0 && (t141 == 0 && (t142 == 515 && (t143 == 1029)))))))) = true := c4
      (try (have c4b1 : decide (t136 = 1 && (t137 == 0 && (t138 == 0 && (t139 == 0 && (t140 == 0 && (t141 == 0 && (t142 == 515 && (t143 == 1029)))))))) = true := by simpa using c4))
      (try (have c4b2 : (t136 == 1 && (t137 == 0 && (t138 == 0 && (t139 == 0 && (t140 == 0 && (t141 == 0 && (t142 == 515 && (t143 == 1029)))))))) = true := by simpa using c4))
      clear c4
      by_cases c5 : t154 = true
      · subst c5
        have H1 : (none) = some r := by rw [if_pos rfl] at H; exact H
        clear H
        have H := H1
        clear H1
        exact absurd H (by simp)
      · replace c5 := Bool.eq_false_iff.mpr c5
        subst c5
        have H1 : ((ip6_Show.f k t136 t137 t138 t139 t140 t141 t142 t143).bind fun t156 => (some (t156.toList == ([49, 58, 58, 50, 48, 51, 58, 52, 48, 53] : List UInt8)))) = some r := by rw [if_neg (show ¬ (false = true) by decide)] at H; exact H
        clear H
        have H := H1
        clear H1
        replace H := Option.bind_eq_some_iff.mp H
        obtain ⟨t156, A60, H⟩ := H
        replace H : (some (t156.toList == ([49, 58, 58, 50, 48, 51, 58, 52, 48, 53] : List UInt8))) = some r := H
        have A6 := Aside0.mk A60
        clear A60
        obtain rfl := Option.some.inj H
        go_enter Tryd.func7, Tryd.ntmps7
        go_wp2_with (first | ((with_reducible refine gate_callee (f := 8) rfl ?_); refine goesL_ (some 6) rfl rfl Tryd.func8 (by kernel_rfl) rfl #[.string (⟨#[49, 58, 48, 58, 48, 58, 58, 50, 46, 51, 46, 52, 46, 53]⟩ : ByteArray)] rfl (by (try simp only [List.map_toArray, List.map_cons, List.map_nil]); first | done | rfl | (simp only [List.length_drop, List.length_take]; rfl)) ?_; (with_reducible refine (ip6_Parse.calls k (⟨#[49, 58, 48, 58, 48, 58, 58, 50, 46, 51, 46, 52, 46, 53]⟩ : ByteArray) t136 t137 t138 t139 t140 t141 t142 t143 true _ ?side1 A1.out).mono ?_); (case side1 => exact EnvOK.step HE.out (by repeat (first | (with_reducible first | exact HB.out | apply below_alloc | apply pw_below_drewN | apply below_drew1) | exact HB.out))); rintro e w7 ⟨rfl, hb⟩; refine ⟨_, rfl, ?_⟩; have n0_ := Aside0.mk (below_step (by repeat (first | (with_reducible first | exact HB.out | apply below_alloc | apply pw_below_drewN | apply below_drew1) | exact HB.out)) hb); clear HB; have HB := n0_; clear n0_; (try clear hb); (try clear hb2); (try clear hk); (try clear hi)) | ((with_reducible refine gate_dst (N := 1) rfl ?_); refine box_event ?hg (N := 1) ?hd (cs := #[.int .u16 0, .int .u16 0, .int .u16 0, .int .u16 0, .int .u16 0, .int .u16 0, .int .u16 0, .int .u16 0]) (t := 24) ?hr ?_; (case hd => rfl); (case hg => rfl); (case hr => first | (go_simp; done) | (go_simp; rfl)); intro gb145 hg w8 hbox hb; have n0_ := Aside0.mk (below_step (by repeat (first | (with_reducible first | exact HB.out | apply below_alloc | apply pw_below_drewN | apply below_drew1) | exact HB.out)) hb); have n1_ := Aside0.mk (hbox); have n2_ := Aside0.mk ((by rw [hg]; exact (below_size (by repeat (first | (with_reducible first | exact HB.out | apply below_alloc | apply pw_below_drewN | apply below_drew1) | exact HB.out))) : w.heap.size ≤ gb145)); have n3_ := Aside0.mk ((by rw [hg]; exact (below_size (by repeat (first | (with_reducible first | exact HB.out | apply below_alloc | apply pw_below_drewN | apply below_drew1) | exact HB.out))) : w.heap.size ≤ gb145)); clear HB; have HB := n0_; have BK145 := n1_; have GW145 := n2_; have GE145 := n3_; clear n0_ n1_ n2_ n3_; clear hb hbox hg; have hcz9_0 : w8.cell? ⟨gb145, 0, none⟩ = some (.int .u16 0) := (blk_cell BK145.out 0).trans rfl; have hcz9_1 : w8.cell? ⟨gb145, 1, none⟩ = some (.int .u16 0) := (blk_cell BK145.out 1).trans rfl; have hcz9_2 : w8.cell? ⟨gb145, 2, none⟩ = some (.int .u16 0) := (blk_cell BK145.out 2).trans rfl; have hcz9_3 : w8.cell? ⟨gb145, 3, none⟩ = some (.int .u16 0) := (blk_cell BK145.out 3).trans rfl; have hcz9_4 : w8.cell? ⟨gb145, 4, none⟩ = some (.int .u16 0) := (blk_cell BK145.out 4).trans rfl; have hcz9_5 : w8.cell? ⟨gb145, 5, none⟩ = some (.int .u16 0) := (blk_cell BK145.out 5).trans rfl; have hcz9_6 : w8.cell? ⟨gb145, 6, none⟩ = some (.int .u16 0) := (blk_cell BK145.out 6).trans rfl; have hcz9_7 : w8.cell? ⟨gb145, 7, none⟩ = some (.int .u16 0) := (blk_cell BK145.out 7).trans rfl; have hfz9_0 := blk_frozen BK145.out 0; have hfz9_1 := blk_frozen BK145.out 1; have hfz9_2 := blk_frozen BK145.out 2; have hfz9_3 := blk_frozen BK145.out 3; have hfz9_4 := blk_frozen BK145.out 4; have hfz9_5 := blk_frozen BK145.out 5; have hfz9_6 := blk_frozen BK145.out 6; have hfz9_7 := blk_frozen BK145.out 7) | ((with_reducible refine gate_callee (f := 8) rfl ?_); refine goesL_ (some 10) rfl rfl Tryd.func8 (by kernel_rfl) rfl #[.string (⟨#[49, 58, 50, 58, 51, 58, 52, 58, 53, 58, 54, 58, 55, 58, 56, 58, 58]⟩ : ByteArray)] rfl (by (try simp only [List.map_toArray, List.map_cons, List.map_nil]); first | done | rfl | (simp only [List.length_drop, List.length_take]; rfl)) ?_; (with_reducible refine (ip6_Parse.calls k (⟨#[49, 58, 50, 58, 51, 58, 52, 58, 53, 58, 54, 58, 55, 58, 56, 58, 58]⟩ : ByteArray) t146 t147 t148 t149 t150 t151 t152 t153 false _ ?side1 A2.out).mono ?_); (case side1 => exact EnvOK.step HE.out (by repeat (first | (with_reducible first | exact HB.out | apply below_alloc | apply pw_below_drewN | apply below_drew1 | refine below_set ?_ GE145.out) | exact HB.out))); rintro e w10 ⟨rfl, hb⟩; refine ⟨_, rfl, ?_⟩; have n0_ := Aside0.mk (blk_below (g := gb145) (o := .cells #[.int .u16 t136, .int .u16 t137, .int .u16 t138, .int .u16 t139, .int .u16 t140, .int .u16 t141, .int .u16 t142, .int .u16 t143] 24 (0, 0)) (by (with_reducible repeat (first | refine blk_drewN ?_ _ | refine blk_drew ?_ | refine blk_alloc ?_ _)); refine blk_put (cs := #[.int .u16 t136, .int .u16 t137, .int .u16 t138, .int .u16 t139, .int .u16 t140, .int .u16 t141, .int .u16 t142, .int .u16 0]) ?_ 7 _ rfl; (with_reducible repeat (first | refine blk_drewN ?_ _ | refine blk_drew ?_ | refine blk_alloc ?_ _)); refine blk_put (cs := #[.int .u16 t136, .int .u16 t137, .int .u16 t138, .int .u16 t139, .int .u16 t140, .int .u16 t141, .int .u16 0, .int .u16 0]) ?_ 6 _ rfl; (with_reducible repeat (first | refine blk_drewN ?_ _ | refine blk_drew ?_ | refine blk_alloc ?_ _)); refine blk_put (cs := #[.int .u16 t136, .int .u16 t137, .int .u16 t138, .int .u16 t139, .int .u16 t140, .int .u16 0, .int .u16 0, .int .u16 0]) ?_ 5 _ rfl; (with_reducible repeat (first | refine blk_drewN ?_ _ | refine blk_drew ?_ | refine blk_alloc ?_ _)); refine blk_put (cs := #[.int .u16 t136, .int .u16 t137, .int .u16 t138, .int .u16 t139, .int .u16 0, .int .u16 0, .int .u16 0, .int .u16 0]) ?_ 4 _ rfl; (with_reducible repeat (first | refine blk_drewN ?_ _ | refine blk_drew ?_ | refine blk_alloc ?_ _)); refine blk_put (cs := #[.int .u16 t136, .int .u16 t137, .int .u16 t138, .int .u16 0, .int .u16 0, .int .u16 0, .int .u16 0, .int .u16 0]) ?_ 3 _ rfl; (with_reducible repeat (first | refine blk_drewN ?_ _ | refine blk_drew ?_ | refine blk_alloc ?_ _)); refine blk_put (cs := #[.int .u16 t136, .int .u16 t137, .int .u16 0, .int .u16 0, .int .u16 0, .int .u16 0, .int .u16 0, .int .u16 0]) ?_ 2 _ rfl; (with_reducible repeat (first | refine blk_drewN ?_ _ | refine blk_drew ?_ | refine blk_alloc ?_ _)); refine blk_put (cs := #[.int .u16 t136, .int .u16 0, .int .u16 0, .int .u16 0, .int .u16 0, .int .u16 0, .int .u16 0, .int .u16 0]) ?_ 1 _ rfl; (with_reducible repeat (first | refine blk_drewN ?_ _ | refine blk_drew ?_ | refine blk_alloc ?_ _)); refine blk_put (cs := #[.int .u16 0, .int .u16 0, .int .u16 0, .int .u16 0, .int .u16 0, .int .u16 0, .int .u16 0, .int .u16 0]) ?_ 0 _ rfl; (with_reducible repeat (first | refine blk_drewN ?_ _ | refine blk_drew ?_ | refine blk_alloc ?_ _)); exact BK145.out) hb); have n1_ := Aside0.mk (below_step (by repeat (first | (with_reducible first | exact HB.out | apply below_alloc | apply pw_below_drewN | apply below_drew1 | refine below_set ?_ GE145.out) | exact HB.out)) hb); clear BK145; clear HB; have BK145 := n0_; have HB := n1_; clear n0_ n1_; (try clear hb); (try clear hb2); (try clear hk); (try clear hi)) | ((with_reducible refine gate_dst (N := 3) rfl ?_); refine box_event ?hg (N := 3) ?hd (cs := #[.int .u16 0, .int .u16 0, .int .u16 0, .int .u16 0, .int .u16 0, .int .u16 0, .int .u16 0, .int .u16 0]) (t := 24) ?hr ?_; (case hd => rfl); (case hg => rfl); (case hr => first | (go_simp; done) | (go_simp; rfl)); intro gb155 hg w11 hbox hb; have n0_ := Aside0.mk (blk_below (g := gb145) (o := .cells #[.int .u16 t136, .int .u16 t137, .int .u16 t138, .int .u16 t139, .int .u16 t140, .int .u16 t141, .int .u16 t142, .int .u16 t143] 24 (0, 0)) (by (with_reducible repeat (first | refine blk_drewN ?_ _ | refine blk_drew ?_ | refine blk_alloc ?_ _)); exact BK145.out) hb); have n1_ := Aside0.mk (below_step (by repeat (first | (with_reducible first | exact HB.out | apply below_alloc | apply pw_below_drewN | apply below_drew1 | refine below_set ?_ GE145.out) | exact HB.out)) hb); have n2_ := Aside0.mk (hbox); have n3_ := Aside0.mk ((by rw [hg]; exact (below_size (by repeat (first | (with_reducible first | exact HB.out | apply below_alloc | apply pw_below_drewN | apply below_drew1 | refine below_set ?_ GE145.out) | exact HB.out))) : w.heap.size ≤ gb155)); have n4_ := Aside0.mk ((by rw [hg]; exact (below_size (by repeat (first | (with_reducible first | exact HB.out | apply below_alloc | apply pw_below_drewN | apply below_drew1 | refine below_set ?_ GE145.out) | exact HB.out))) : w.heap.size ≤ gb155)); have n5_ := Aside0.mk ((by rw [hg]; exact Nat.ne_of_lt (blk_lt (g := gb145) (o := .cells #[.int .u16 t136, .int .u16 t137, .int .u16 t138, .int .u16 t139, .int .u16 t140, .int .u16 t141, .int .u16 t142, .int .u16 t143] 24 (0, 0)) (by (with_reducible repeat (first | refine blk_drewN ?_ _ | refine blk_drew ?_ | refine blk_alloc ?_ _)); exact BK145.out)) : gb145 ≠ gb155)); have n6_ := Aside0.mk ((by rw [hg]; exact Nat.ne_of_gt (blk_lt (g := gb145) (o := .cells #[.int .u16 t136, .int .u16 t137, .int .u16 t138, .int .u16 t139, .int .u16 t140, .int .u16 t141, .int .u16 t142, .int .u16 t143] 24 (0, 0)) (by (with_reducible repeat (first | refine blk_drewN ?_ _ | refine blk_drew ?_ | refine blk_alloc ?_ _)); exact BK145.out)) : gb155 ≠ gb145)); clear BK145; clear HB; have BK145 := n0_; have HB := n1_; have BK155 := n2_; have GW155 := n3_; have GE155 := n4_; have NB145_155 := n5_; have NB155_145 := n6_; clear n0_ n1_ n2_ n3_ n4_ n5_ n6_; clear hb hbox hg; have hnb12 := NB155_145.out; have hnc12 := NB145_155.out; have hcz13_0 : w11.cell? ⟨gb155, 0, none⟩ = some (.int .u16 0) := (blk_cell BK155.out 0).trans rfl; have hcz13_1 : w11.cell? ⟨gb155, 1, none⟩ = some (.int .u16 0) := (blk_cell BK155.out 1).trans rfl; have hcz13_2 : w11.cell? ⟨gb155, 2, none⟩ = some (.int .u16 0) := (blk_cell BK155.out 2).trans rfl; have hcz13_3 : w11.cell? ⟨gb155, 3, none⟩ = some (.int .u16 0) := (blk_cell BK155.out 3).trans rfl; have hcz13_4 : w11.cell? ⟨gb155, 4, none⟩ = some (.int .u16 0) := (blk_cell BK155.out 4).trans rfl; have hcz13_5 : w11.cell? ⟨gb155, 5, none⟩ = some (.int .u16 0) := (blk_cell BK155.out 5).trans rfl; have hcz13_6 : w11.cell? ⟨gb155, 6, none⟩ = some (.int .u16 0) := (blk_cell BK155.out 6).trans rfl; have hcz13_7 : w11.cell? ⟨gb155, 7, none⟩ = some (.int .u16 0) := (blk_cell BK155.out 7).trans rfl; have hfz13_0 := blk_frozen BK155.out 0; have hfz13_1 := blk_frozen BK155.out 1; have hfz13_2 := blk_frozen BK155.out 2; have hfz13_3 := blk_frozen BK155.out 3; have hfz13_4 := blk_frozen BK155.out 4; have hfz13_5 := blk_frozen BK155.out 5; have hfz13_6 := blk_frozen BK155.out 6; have hfz13_7 := blk_frozen BK155.out 7; have hcz14_0 : w11.cell? ⟨gb145, 0, none⟩ = some (.int .u16 t136) := (blk_cell BK145.out 0).trans rfl; have hcz14_1 : w11.cell? ⟨gb145, 1, none⟩ = some (.int .u16 t137) := (blk_cell BK145.out 1).trans rfl; have hcz14_2 : w11.cell? ⟨gb145, 2, none⟩ = some (.int .u16 t138) := (blk_cell BK145.out 2).trans rfl; have hcz14_3 : w11.cell? ⟨gb145, 3, none⟩ = some (.int .u16 t139) := (blk_cell BK145.out 3).trans rfl; have hcz14_4 : w11.cell? ⟨gb145, 4, none⟩ = some (.int .u16 t140) := (blk_cell BK145.out 4).trans rfl; have hcz14_5 : w11.cell? ⟨gb145, 5, none⟩ = some (.int .u16 t141) := (blk_cell BK145.out 5).trans rfl; have hcz14_6 : w11.cell? ⟨gb145, 6, none⟩ = some (.int .u16 t142) := (blk_cell BK145.out 6).trans rfl; have hcz14_7 : w11.cell? ⟨gb145, 7, none⟩ = some (.int .u16 t143) := (blk_cell BK145.out 7).trans rfl; have hfz14_0 := blk_frozen BK145.out 0; have hfz14_1 := blk_frozen BK145.out 1; have hfz14_2 := blk_frozen BK145.out 2; have hfz14_3 := blk_frozen BK145.out 3; have hfz14_4 := blk_frozen BK145.out 4; have hfz14_5 := blk_frozen BK145.out 5; have hfz14_6 := blk_frozen BK145.out 6; have hfz14_7 := blk_frozen BK145.out 7) | (go_at_call 10; (with_reducible refine (ip6_Show.calls k t136 t137 t138 t139 t140 t141 t142 t143 t156 _ ?side1 A6.out).mono ?_); (case side1 => exact EnvOK.step HE.out (by repeat (first | (with_reducible first | exact HB.out | apply below_alloc | apply pw_below_drewN | apply below_drew1 | refine below_set ?_ GE145.out | refine below_set ?_ GE155.out) | exact HB.out))); rintro e w15 ⟨rfl, hb⟩; have n0_ := Aside0.mk (blk_below (g := gb145) (o := .cells #[.int .u16 t136, .int .u16 t137, .int .u16 t138, .int .u16 t139, .int .u16 t140, .int .u16 t141, .int .u16 t142, .int .u16 t143] 24 (0, 0)) (by (with_reducible repeat (first | refine blk_drewN ?_ _ | refine blk_drew ?_ | refine blk_alloc ?_ _)); refine blk_far ?_ NB145_155.out _; (with_reducible repeat (first | refine blk_drewN ?_ _ | refine blk_drew ?_ | refine blk_alloc ?_ _)); refine blk_far ?_ NB145_155.out _; (with_reducible repeat (first | refine blk_drewN ?_ _ | refine blk_drew ?_ | refine blk_alloc ?_ _)); refine blk_far ?_ NB145_155.out _; (with_reducible repeat (first | refine blk_drewN ?_ _ | refine blk_drew ?_ | refine blk_alloc ?_ _)); refine blk_far ?_ NB145_155.out _; (with_reducible repeat (first | refine blk_drewN ?_ _ | refine blk_drew ?_ | refine blk_alloc ?_ _)); refine blk_far ?_ NB145_155.out _; (with_reducible repeat (first | refine blk_drewN ?_ _ | refine blk_drew ?_ | refine blk_alloc ?_ _)); refine blk_far ?_ NB145_155.out _; (with_reducible repeat (first | refine blk_drewN ?_ _ | refine blk_drew ?_ | refine blk_alloc ?_ _)); refine blk_far ?_ NB145_155.out _; (with_reducible repeat (first | refine blk_drewN ?_ _ | refine blk_drew ?_ | refine blk_alloc ?_ _)); refine blk_far ?_ NB145_155.out _; (with_reducible repeat (first | refine blk_drewN ?_ _ | refine blk_drew ?_ | refine blk_alloc ?_ _)); exact BK145.out) hb); have n1_ := Aside0.mk (blk_below (g := gb155) (o := .cells #[.int .u16 t146, .int .u16 t147, .int .u16 t148, .int .u16 t149, .int .u16 t150, .int .u16 t151, .int .u16 t152, .int .u16 t153] 24 (0, 0)) (by (with_reducible repeat (first | refine blk_drewN ?_ _ | refine blk_drew ?_ | refine blk_alloc ?_ _)); refine blk_put (cs := #[.int .u16 t146, .int .u16 t147, .int .u16 t148, .int .u16 t149, .int .u16 t150, .int .u16 t151, .int .u16 t152, .int .u16 0]) ?_ 7 _ rfl; (with_reducible repeat (first | refine blk_drewN ?_ _ | refine blk_drew ?_ | refine blk_alloc ?_ _)); refine blk_put (cs := #[.int .u16 t146, .int .u16 t147, .int .u16 t148, .int .u16 t149, .int .u16 t150, .int .u16 t151, .int .u16 0, .int .u16 0]) ?_ 6 _ rfl; (with_reducible repeat (first | refine blk_drewN ?_ _ | refine blk_drew ?_ | refine blk_alloc ?_ _)); refine blk_put (cs := #[.int .u16 t146, .int .u16 t147, .int .u16 t148, .int .u16 t149, .int .u16 t150, .int .u16 0, .int .u16 0, .int .u16 0]) ?_ 5 _ rfl; (with_reducible repeat (first | refine blk_drewN ?_ _ | refine blk_drew ?_ | refine blk_alloc ?_ _)); refine blk_put (cs := #[.int .u16 t146, .int .u16 t147, .int .u16 t148, .int .u16 t149, .int .u16 0, .int .u16 0, .int .u16 0, .int .u16 0]) ?_ 4 _ rfl; (with_reducible repeat (first | refine blk_drewN ?_ _ | refine blk_drew ?_ | refine blk_alloc ?_ _)); refine blk_put (cs := #[.int .u16 t146, .int .u16 t147, .int .u16 t148, .int .u16 0, .int .u16 0, .int .u16 0, .int .u16 0, .int .u16 0]) ?_ 3 _ rfl; (with_reducible repeat (first | refine blk_drewN ?_ _ | refine blk_drew ?_ | refine blk_alloc ?_ _)); refine blk_put (cs := #[.int .u16 t146, .int .u16 t147, .int .u16 0, .int .u16 0, .int .u16 0, .int .u16 0, .int .u16 0, .int .u16 0]) ?_ 2 _ rfl; (with_reducible repeat (first | refine blk_drewN ?_ _ | refine blk_drew ?_ | refine blk_alloc ?_ _)); refine blk_put (cs := #[.int .u16 t146, .int .u16 0, .int .u16 0, .int .u16 0, .int .u16 0, .int .u16 0, .int .u16 0, .int .u16 0]) ?_ 1 _ rfl; (with_reducible repeat (first | refine blk_drewN ?_ _ | refine blk_drew ?_ | refine blk_alloc ?_ _)); refine blk_put (cs := #[.int .u16 0, .int .u16 0, .int .u16 0, .int .u16 0, .int .u16 0, .int .u16 0, .int .u16 0, .int .u16 0]) ?_ 0 _ rfl; (with_reducible repeat (first | refine blk_drewN ?_ _ | refine blk_drew ?_ | refine blk_alloc ?_ _)); exact BK155.out) hb); have n2_ := Aside0.mk (below_step (by repeat (first | (with_reducible first | exact HB.out | apply below_alloc | apply pw_below_drewN | apply below_drew1 | refine below_set ?_ GE145.out | refine below_set ?_ GE155.out) | exact HB.out)) hb); clear BK145; clear BK155; clear HB; have BK145 := n0_; have BK155 := n1_; have HB := n2_; clear n0_ n1_ n2_; (try clear hb); (try clear hb2); (try clear hk); (try clear hi)))
        go_ret
        exact ⟨by first | rfl | (simp [errW_none, errW_some] <;> rfl) | (simp [*, errW_none, errW_some] <;> rfl), by repeat (first | (with_reducible first | exact HB.out | apply below_alloc | apply pw_below_drewN | apply below_drew1 | refine below_set ?_ GE145.out | refine below_set ?_ GE155.out) | exact HB.out)⟩
    · rw [if_neg c4] at H
      exact absurd H (by simp)
  · replace c3 := Bool.eq_false_iff.mpr c3
    subst c3
    have H1 : (none) = some r := by rw [if_neg (show ¬ (false = true) by decide)] at H; exact H
    clear H
    have H := H1
    clear H1
    exact absurd H (by simp)

end Go.Proofs.YtcpfhnodbgojaaaDoor.PF
