-- WRITTEN BY A PROGRAM OF THIS SESSION (wip/tools/xprint.py, over the kit's print.py).
import Derived.Test.YthnlgnnodgeneaaDoorPFx0
import Derived.Test.YthnlgnnodgeneaaDoorPFx2
import Derived.Test.YthnlgnnodgeneaaDoorPFx4
import Derived.Test.YthnlgnnodgeneaaDoorPFx5
namespace Go.Proofs.YthnlgnnodgeneaaDoor.PF
open Go.RowKit Go.Proofs.YthnlgnnodgeneaaDoorW.PrintWords Go.Proofs.YthnlgnnodgeneaaDoorW.PrintLast Go.Proofs.YthnlgnnodgeneaaDoorW.PrintMore Go.Proofs.YthnlgnnodgeneaaDoorE
attribute [local go_sem] max2_int min2_int max_two min_two max_three min_three max_four min_four   -- for this text's walks alone
set_option linter.unusedVariables false
set_option linter.unusedSimpArgs false

/-! ### file_Path: function 12 -/
mutual
def file_Path.j0 : Nat → Bool → ByteArray → ByteArray → ByteArray → Int → ByteArray → Int → Int → Int → Int → Int → Int → Int → Int → Int → Int → Bool → List ByteArray → Bool → ByteArray → Bool → ByteArray → Option (ByteArray × Int)
  | 0, _, _, _, _, _, _, _, _, _, _, _, _, _, _, _, _, _, _, _, _, _, _ => none
  | k + 1, x16, x175000, x175001, x175002, x175003, x175004, x175005, x175006, x175007, x175008, x175009, x175010, x175011, x175012, x175013, x175014, x175015, x175016, x175017, x175018, x175019, x175020 => if x16 = true then (some ((⟨#[]⟩ : ByteArray), 8)) else (file_Path.l0 k x175016 (x175016.length : Int) 0 x175000 x175001 x175002 x175003 x175004 x175005 x175006 x175007 x175008 x175009 x175010 x175011 x175012 x175013 x175014 x175015 x175016 x175017 x175018 x175019 x175020)
def file_Path.l0 : Nat → List ByteArray → Int → Int → ByteArray → ByteArray → ByteArray → Int → ByteArray → Int → Int → Int → Int → Int → Int → Int → Int → Int → Int → Bool → List ByteArray → Bool → ByteArray → Bool → ByteArray → Option (ByteArray × Int)
  | 0, _, _, _, _, _, _, _, _, _, _, _, _, _, _, _, _, _, _, _, _, _, _, _, _ => none
  | k + 1, x18, x19, x20, x175000, x175001, x175002, x175003, x175004, x175005, x175006, x175007, x175008, x175009, x175010, x175011, x175012, x175013, x175014, x175015, x175016, x175017, x175018, x175019, x175020 => if x20 < x19 then (if 0 ≤ x20 then (if x20 < (x18.length : Int) then ((strings_ToLower.f (rdOf ByteArray.empty x18 x20)).bind fun t176 => ((strings_Contains.f t176 (⟨#[37, 50, 102]⟩ : ByteArray)).bind fun t177 => (if t177 = true then (some ((⟨#[]⟩ : ByteArray), 15)) else ((strings_Contains.f t176 (⟨#[37, 53, 99]⟩ : ByteArray)).bind fun t178 => (if t178 = true then (some ((⟨#[]⟩ : ByteArray), 15)) else (file_Path.l0 k x18 x19 (wrap64 (x20 + 1)) x175000 x175001 x175002 x175003 x175004 x175005 x175006 x175007 x175008 x175009 x175010 x175011 x175012 x175013 x175014 x175015 x175016 x175017 x175018 x175019 x175020)))))) else (none)) else (none)) else ((strings_Join.f x175016 (⟨#[47]⟩ : ByteArray)).bind fun t179 => (if (x175016.length : Int) > 0 then (if 1 + t179.size ≤ 9223372036854775807 then ((pct_Decode.f k ((⟨#[47]⟩ : ByteArray) ++ t179)).bind fun t180 => (some (strOfNums t180, 0))) else (none)) else ((pct_Decode.f k t179).bind fun t183 => (some (strOfNums t183, 0)))))
end
def file_Path.f (k : Nat) (a0_0 : ByteArray) (a0_1 : ByteArray) (a0_2 : ByteArray) (a0_3 : Int) (a0_4 : ByteArray) (a0_5 : Int) (a0_6 : Int) (a0_7 : Int) (a0_8 : Int) (a0_9 : Int) (a0_10 : Int) (a0_11 : Int) (a0_12 : Int) (a0_13 : Int) (a0_14 : Int) (a0_15 : Bool) (l0_16 : List ByteArray) (a0_17 : Bool) (a0_18 : ByteArray) (a0_19 : Bool) (a0_20 : ByteArray) : Option (ByteArray × Int) := if a0_0.toList = ([102, 105, 108, 101] : List UInt8) then (file_Path.j0 k (a0_3 != 1) a0_0 a0_1 a0_2 a0_3 a0_4 a0_5 a0_6 a0_7 a0_8 a0_9 a0_10 a0_11 a0_12 a0_13 a0_14 a0_15 l0_16 a0_17 a0_18 a0_19 a0_20) else (file_Path.j0 k true a0_0 a0_1 a0_2 a0_3 a0_4 a0_5 a0_6 a0_7 a0_8 a0_9 a0_10 a0_11 a0_12 a0_13 a0_14 a0_15 l0_16 a0_17 a0_18 a0_19 a0_20)
theorem file_Path.mono_l : ∀ k, (∀ y0 y1 y2 y3 y4 y5 y6 y7 y8 y9 y10 y11 y12 y13 y14 y15 y16 y17 y18 y19 y20 y21, LeO (file_Path.j0 k y0 y1 y2 y3 y4 y5 y6 y7 y8 y9 y10 y11 y12 y13 y14 y15 y16 y17 y18 y19 y20 y21) (file_Path.j0 (k + 1) y0 y1 y2 y3 y4 y5 y6 y7 y8 y9 y10 y11 y12 y13 y14 y15 y16 y17 y18 y19 y20 y21)) ∧ (∀ y0 y1 y2 y3 y4 y5 y6 y7 y8 y9 y10 y11 y12 y13 y14 y15 y16 y17 y18 y19 y20 y21 y22 y23, LeO (file_Path.l0 k y0 y1 y2 y3 y4 y5 y6 y7 y8 y9 y10 y11 y12 y13 y14 y15 y16 y17 y18 y19 y20 y21 y22 y23) (file_Path.l0 (k + 1) y0 y1 y2 y3 y4 y5 y6 y7 y8 y9 y10 y11 y12 y13 y14 y15 y16 y17 y18 y19 y20 y21 y22 y23))
  | 0 => ⟨fun _ _ _ _ _ _ _ _ _ _ _ _ _ _ _ _ _ _ _ _ _ _ r h => by simp [file_Path.j0] at h, fun _ _ _ _ _ _ _ _ _ _ _ _ _ _ _ _ _ _ _ _ _ _ _ _ r h => by simp [file_Path.l0] at h⟩
  | k + 1 => by
    obtain ⟨ih0, ih1⟩ := file_Path.mono_l k
    refine ⟨?_, ?_⟩
    · intro y0 y1 y2 y3 y4 y5 y6 y7 y8 y9 y10 y11 y12 y13 y14 y15 y16 y17 y18 y19 y20 y21
      unfold file_Path.j0
      repeat' first
      | (with_reducible exact ih0 _ _ _ _ _ _ _ _ _ _ _ _ _ _ _ _ _ _ _ _ _ _)
      | (with_reducible exact ih1 _ _ _ _ _ _ _ _ _ _ _ _ _ _ _ _ _ _ _ _ _ _ _ _)
      | (with_reducible exact pct_Decode.mono _ _)
      | (with_reducible exact LeO.refl _)
      | (with_reducible exact LeO.none _)
      | (with_reducible refine LeO.ite ?_ ?_)
      | (with_reducible refine LeO.bind ?_ (fun _ => ?_))
      | exact ih0 _ _ _ _ _ _ _ _ _ _ _ _ _ _ _ _ _ _ _ _ _ _
      | exact ih1 _ _ _ _ _ _ _ _ _ _ _ _ _ _ _ _ _ _ _ _ _ _ _ _
      | exact pct_Decode.mono _ _
      | exact LeO.none _
      | refine LeO.ite ?_ ?_
      | refine LeO.bind ?_ (fun _ => ?_)
    · intro y0 y1 y2 y3 y4 y5 y6 y7 y8 y9 y10 y11 y12 y13 y14 y15 y16 y17 y18 y19 y20 y21 y22 y23
      unfold file_Path.l0
      repeat' first
      | (with_reducible exact ih0 _ _ _ _ _ _ _ _ _ _ _ _ _ _ _ _ _ _ _ _ _ _)
      | (with_reducible exact ih1 _ _ _ _ _ _ _ _ _ _ _ _ _ _ _ _ _ _ _ _ _ _ _ _)
      | (with_reducible exact pct_Decode.mono _ _)
      | (with_reducible exact LeO.refl _)
      | (with_reducible exact LeO.none _)
      | (with_reducible refine LeO.ite ?_ ?_)
      | (with_reducible refine LeO.bind ?_ (fun _ => ?_))
      | exact ih0 _ _ _ _ _ _ _ _ _ _ _ _ _ _ _ _ _ _ _ _ _ _
      | exact ih1 _ _ _ _ _ _ _ _ _ _ _ _ _ _ _ _ _ _ _ _ _ _ _ _
      | exact pct_Decode.mono _ _
      | exact LeO.none _
      | refine LeO.ite ?_ ?_
      | refine LeO.bind ?_ (fun _ => ?_)
theorem file_Path.mono : ∀ a0 a1 a2 a3 a4 a5 a6 a7 a8 a9 a10 a11 a12 a13 a14 a15 a16 a17 a18 a19 a20 k, LeO (file_Path.f k a0 a1 a2 a3 a4 a5 a6 a7 a8 a9 a10 a11 a12 a13 a14 a15 a16 a17 a18 a19 a20) (file_Path.f (k + 1) a0 a1 a2 a3 a4 a5 a6 a7 a8 a9 a10 a11 a12 a13 a14 a15 a16 a17 a18 a19 a20) := by
  intro a0 a1 a2 a3 a4 a5 a6 a7 a8 a9 a10 a11 a12 a13 a14 a15 a16 a17 a18 a19 a20 k
  obtain ⟨ih0, ih1⟩ := file_Path.mono_l k
  unfold file_Path.f
  repeat' first
      | (with_reducible exact ih0 _ _ _ _ _ _ _ _ _ _ _ _ _ _ _ _ _ _ _ _ _ _)
      | (with_reducible exact ih1 _ _ _ _ _ _ _ _ _ _ _ _ _ _ _ _ _ _ _ _ _ _ _ _)
      | (with_reducible exact pct_Decode.mono _ _)
      | (with_reducible exact LeO.refl _)
      | (with_reducible exact LeO.none _)
      | (with_reducible refine LeO.ite ?_ ?_)
      | (with_reducible refine LeO.bind ?_ (fun _ => ?_))
      | exact ih0 _ _ _ _ _ _ _ _ _ _ _ _ _ _ _ _ _ _ _ _ _ _
      | exact ih1 _ _ _ _ _ _ _ _ _ _ _ _ _ _ _ _ _ _ _ _ _ _ _ _
      | exact pct_Decode.mono _ _
      | exact LeO.none _
      | refine LeO.ite ?_ ?_
      | refine LeO.bind ?_ (fun _ => ?_)
set_option maxHeartbeats 8000000 in
set_option maxRecDepth 100000 in
theorem file_Path.calls (k : Nat) (a0_0 : ByteArray) (a0_1 : ByteArray) (a0_2 : ByteArray) (a0_3 : Int) (a0_4 : ByteArray) (a0_5 : Int) (a0_6 : Int) (a0_7 : Int) (a0_8 : Int) (a0_9 : Int) (a0_10 : Int) (a0_11 : Int) (a0_12 : Int) (a0_13 : Int) (a0_14 : Int) (a0_15 : Bool) (A0_16 : Option Addr) (c0_16 : Nat) (l0_16 : List ByteArray) (a0_17 : Bool) (a0_18 : ByteArray) (a0_19 : Bool) (a0_20 : ByteArray) (r1 : ByteArray) (r2 : Int) (w : World) (hr0_16 : Kd.C Kd.string w A0_16 l0_16.length l0_16) (hc0_16 : l0_16.length ≤ c0_16) (hE : EnvOK w) (h : file_Path.f k a0_0 a0_1 a0_2 a0_3 a0_4 a0_5 a0_6 a0_7 a0_8 a0_9 a0_10 a0_11 a0_12 a0_13 a0_14 a0_15 l0_16 a0_17 a0_18 a0_19 a0_20 = some (r1, r2)) :
    Calls Tryd.prog 12 #[.agg #[.string a0_0, .string a0_1, .string a0_2, .int .i64 a0_3, .string a0_4, .int .u32 a0_5, .int .u16 a0_6, .int .u16 a0_7, .int .u16 a0_8, .int .u16 a0_9, .int .u16 a0_10, .int .u16 a0_11, .int .u16 a0_12, .int .u16 a0_13, .int .i64 a0_14, .bool a0_15, .slice A0_16 l0_16.length c0_16, .bool a0_17, .string a0_18, .bool a0_19, .string a0_20]] w fun e w' => e = .returned (.tuple #[.string r1, .int .i64 r2]) ∧ Below w.heap.size w w' := by
  have hu30 := Tryd.underlying30
  have HE := Aside0.mk hE
  clear hE
  have HR0_16 := Aside0.mk hr0_16
  have HC0_16 := Aside0.mk hc0_16
  clear hr0_16 hc0_16
  have HB := Aside0.mk (Below.refl w.heap.size w)
  have H : (if a0_0.toList = ([102, 105, 108, 101] : List UInt8) then (file_Path.j0 k (a0_3 != 1) a0_0 a0_1 a0_2 a0_3 a0_4 a0_5 a0_6 a0_7 a0_8 a0_9 a0_10 a0_11 a0_12 a0_13 a0_14 a0_15 l0_16 a0_17 a0_18 a0_19 a0_20) else (file_Path.j0 k true a0_0 a0_1 a0_2 a0_3 a0_4 a0_5 a0_6 a0_7 a0_8 a0_9 a0_10 a0_11 a0_12 a0_13 a0_14 a0_15 l0_16 a0_17 a0_18 a0_19 a0_20)) = some (r1, r2) := h
  clear h
  have HC2 := Aside0.mk H
  clear H
  go_enter Tryd.func12, Tryd.ntmps12
  go_upto_region 1 with (first | ((with_reducible refine gate_dst (N := 1) rfl ?_); refine box_event ?hg (N := 1) ?hd (cs := #[.string a0_0, .string a0_1, .string a0_2, .int .i64 a0_3, .string a0_4, .int .u32 a0_5, .int .u16 a0_6, .int .u16 a0_7, .int .u16 a0_8, .int .u16 a0_9, .int .u16 a0_10, .int .u16 a0_11, .int .u16 a0_12, .int .u16 a0_13, .int .i64 a0_14, .bool a0_15, .slice A0_16 l0_16.length c0_16, .bool a0_17, .string a0_18, .bool a0_19, .string a0_20]) (t := 30) ?hr ?_; (case hd => rfl); (case hg => rfl); (case hr => first | (go_simp; done) | (go_simp; rfl)); intro gb174 hg w3 hbox hb; have n0_ := Aside0.mk (below_step (by repeat (first | (with_reducible first | exact HB.out | apply below_alloc | apply pw_below_drewN | apply below_drew1) | exact HB.out)) hb); have n1_ := Aside0.mk (hbox); have n2_ := Aside0.mk ((by rw [hg]; exact (below_size (by repeat (first | (with_reducible first | exact HB.out | apply below_alloc | apply pw_below_drewN | apply below_drew1) | exact HB.out))) : w.heap.size ≤ gb174)); have n3_ := Aside0.mk ((by rw [hg]; exact (below_size (by repeat (first | (with_reducible first | exact HB.out | apply below_alloc | apply pw_below_drewN | apply below_drew1) | exact HB.out))) : w.heap.size ≤ gb174)); clear HB; have HB := n0_; have BK174 := n1_; have GW174 := n2_; have GE174 := n3_; clear n0_ n1_ n2_ n3_; clear hb hbox hg))
  (try simp only [Act.put, List.setIfInBounds_toArray, List.set_cons_zero, List.set_cons_succ])
  go_cut [16] (fun v16 wc => ∃ (kq : Nat) (x16_1 : Bool), v16 = .bool x16_1 ∧ Aside0 (file_Path.j0 kq x16_1 a0_0 a0_1 a0_2 a0_3 a0_4 a0_5 a0_6 a0_7 a0_8 a0_9 a0_10 a0_11 a0_12 a0_13 a0_14 a0_15 l0_16 a0_17 a0_18 a0_19 a0_20 = some (r1, r2)) ∧ Aside0 (kq ≤ k) ∧ Aside0 (wc.heap[gb174]? = some (.cells #[.string a0_0, .string a0_1, .string a0_2, .int .i64 a0_3, .string a0_4, .int .u32 a0_5, .int .u16 a0_6, .int .u16 a0_7, .int .u16 a0_8, .int .u16 a0_9, .int .u16 a0_10, .int .u16 a0_11, .int .u16 a0_12, .int .u16 a0_13, .int .i64 a0_14, .bool a0_15, (.slice A0_16 l0_16.length c0_16), .bool a0_17, .string a0_18, .bool a0_19, .string a0_20] 30 (0, 0))) ∧ Aside0 (Below w.heap.size w wc))
  case first =>
    have H := HC2.out
    clear HC2
    by_cases c4 : a0_0.toList = ([102, 105, 108, 101] : List UInt8)
    · rw [if_pos c4] at H
      have c4b0 : (a0_0.toList == ([102, 105, 108, 101] : List UInt8)) = true := beq_iff_eq.mpr c4
      have c4b1 : (a0_0.toList != ([102, 105, 108, 101] : List UInt8)) = false := bne_eq_false_iff_eq.mpr c4
      clear c4
      (first | rw [c4b0] | (simp only [i64_w, i32_w]; rw [c4b0]) | skip)
      have H' := Aside0.mk H
      clear H
      have hcz5_0 : w3.cell? ⟨gb174, 0, none⟩ = some (.string a0_0) := (blk_cell BK174.out 0).trans rfl
      have hcz5_1 : w3.cell? ⟨gb174, 1, none⟩ = some (.string a0_1) := (blk_cell BK174.out 1).trans rfl
      have hcz5_2 : w3.cell? ⟨gb174, 2, none⟩ = some (.string a0_2) := (blk_cell BK174.out 2).trans rfl
      have hcz5_3 : w3.cell? ⟨gb174, 3, none⟩ = some (.int .i64 a0_3) := (blk_cell BK174.out 3).trans rfl
      have hcz5_4 : w3.cell? ⟨gb174, 4, none⟩ = some (.string a0_4) := (blk_cell BK174.out 4).trans rfl
      have hcz5_5 : w3.cell? ⟨gb174, 5, none⟩ = some (.int .u32 a0_5) := (blk_cell BK174.out 5).trans rfl
      have hcz5_6 : w3.cell? ⟨gb174, 6, none⟩ = some (.int .u16 a0_6) := (blk_cell BK174.out 6).trans rfl
      have hcz5_7 : w3.cell? ⟨gb174, 7, none⟩ = some (.int .u16 a0_7) := (blk_cell BK174.out 7).trans rfl
      have hcz5_8 : w3.cell? ⟨gb174, 8, none⟩ = some (.int .u16 a0_8) := (blk_cell BK174.out 8).trans rfl
      have hcz5_9 : w3.cell? ⟨gb174, 9, none⟩ = some (.int .u16 a0_9) := (blk_cell BK174.out 9).trans rfl
      have hcz5_10 : w3.cell? ⟨gb174, 10, none⟩ = some (.int .u16 a0_10) := (blk_cell BK174.out 10).trans rfl
      have hcz5_11 : w3.cell? ⟨gb174, 11, none⟩ = some (.int .u16 a0_11) := (blk_cell BK174.out 11).trans rfl
      have hcz5_12 : w3.cell? ⟨gb174, 12, none⟩ = some (.int .u16 a0_12) := (blk_cell BK174.out 12).trans rfl
      have hcz5_13 : w3.cell? ⟨gb174, 13, none⟩ = some (.int .u16 a0_13) := (blk_cell BK174.out 13).trans rfl
      have hcz5_14 : w3.cell? ⟨gb174, 14, none⟩ = some (.int .i64 a0_14) := (blk_cell BK174.out 14).trans rfl
      have hcz5_15 : w3.cell? ⟨gb174, 15, none⟩ = some (.bool a0_15) := (blk_cell BK174.out 15).trans rfl
      have hcz5_16 : w3.cell? ⟨gb174, 16, none⟩ = some (.slice A0_16 l0_16.length c0_16) := (blk_cell BK174.out 16).trans rfl
      have hcz5_17 : w3.cell? ⟨gb174, 17, none⟩ = some (.bool a0_17) := (blk_cell BK174.out 17).trans rfl
      have hcz5_18 : w3.cell? ⟨gb174, 18, none⟩ = some (.string a0_18) := (blk_cell BK174.out 18).trans rfl
      have hcz5_19 : w3.cell? ⟨gb174, 19, none⟩ = some (.bool a0_19) := (blk_cell BK174.out 19).trans rfl
      have hcz5_20 : w3.cell? ⟨gb174, 20, none⟩ = some (.string a0_20) := (blk_cell BK174.out 20).trans rfl
      have hfz5_0 := blk_frozen BK174.out 0
      have hfz5_1 := blk_frozen BK174.out 1
      have hfz5_2 := blk_frozen BK174.out 2
      have hfz5_3 := blk_frozen BK174.out 3
      have hfz5_4 := blk_frozen BK174.out 4
      have hfz5_5 := blk_frozen BK174.out 5
      have hfz5_6 := blk_frozen BK174.out 6
      have hfz5_7 := blk_frozen BK174.out 7
      have hfz5_8 := blk_frozen BK174.out 8
      have hfz5_9 := blk_frozen BK174.out 9
      have hfz5_10 := blk_frozen BK174.out 10
      have hfz5_11 := blk_frozen BK174.out 11
      have hfz5_12 := blk_frozen BK174.out 12
      have hfz5_13 := blk_frozen BK174.out 13
      have hfz5_14 := blk_frozen BK174.out 14
      have hfz5_15 := blk_frozen BK174.out 15
      have hfz5_16 := blk_frozen BK174.out 16
      have hfz5_17 := blk_frozen BK174.out 17
      have hfz5_18 := blk_frozen BK174.out 18
      have hfz5_19 := blk_frozen BK174.out 19
      have hfz5_20 := blk_frozen BK174.out 20
      go_wp2
      go_meet
      case rel => exact ⟨_, ((a0_3 != 1)), (by first | rfl | (simp; done) | (simp [*]; done)), H', ⟨by first | omega | exact Nat.le_refl _⟩, ⟨by (with_reducible repeat (first | refine blk_drewN ?_ _ | refine blk_drew ?_ | refine blk_alloc ?_ _)); exact BK174.out⟩, ⟨by repeat (first | (with_reducible first | exact HB.out | apply below_alloc | apply pw_below_drewN | apply below_drew1 | refine below_set ?_ GE174.out) | exact HB.out)⟩⟩
    · rw [if_neg c4] at H
      have c4b0 : (a0_0.toList == ([102, 105, 108, 101] : List UInt8)) = false := beq_eq_false_iff_ne.mpr c4
      have c4b1 : (a0_0.toList != ([102, 105, 108, 101] : List UInt8)) = true := bne_iff_ne.mpr c4
      (first | rw [c4b0] | (simp only [i64_w, i32_w]; rw [c4b0]) | skip)
      have H' := Aside0.mk H
      clear H
      have hcz6_0 : w3.cell? ⟨gb174, 0, none⟩ = some (.string a0_0) := (blk_cell BK174.out 0).trans rfl
      have hcz6_1 : w3.cell? ⟨gb174, 1, none⟩ = some (.string a0_1) := (blk_cell BK174.out 1).trans rfl
      have hcz6_2 : w3.cell? ⟨gb174, 2, none⟩ = some (.string a0_2) := (blk_cell BK174.out 2).trans rfl
      have hcz6_3 : w3.cell? ⟨gb174, 3, none⟩ = some (.int .i64 a0_3) := (blk_cell BK174.out 3).trans rfl
      have hcz6_4 : w3.cell? ⟨gb174, 4, none⟩ = some (.string a0_4) := (blk_cell BK174.out 4).trans rfl
      have hcz6_5 : w3.cell? ⟨gb174, 5, none⟩ = some (.int .u32 a0_5) := (blk_cell BK174.out 5).trans rfl
      have hcz6_6 : w3.cell? ⟨gb174, 6, none⟩ = some (.int .u16 a0_6) := (blk_cell BK174.out 6).trans rfl
      have hcz6_7 : w3.cell? ⟨gb174, 7, none⟩ = some (.int .u16 a0_7) := (blk_cell BK174.out 7).trans rfl
      have hcz6_8 : w3.cell? ⟨gb174, 8, none⟩ = some (.int .u16 a0_8) := (blk_cell BK174.out 8).trans rfl
      have hcz6_9 : w3.cell? ⟨gb174, 9, none⟩ = some (.int .u16 a0_9) := (blk_cell BK174.out 9).trans rfl
      have hcz6_10 : w3.cell? ⟨gb174, 10, none⟩ = some (.int .u16 a0_10) := (blk_cell BK174.out 10).trans rfl
      have hcz6_11 : w3.cell? ⟨gb174, 11, none⟩ = some (.int .u16 a0_11) := (blk_cell BK174.out 11).trans rfl
      have hcz6_12 : w3.cell? ⟨gb174, 12, none⟩ = some (.int .u16 a0_12) := (blk_cell BK174.out 12).trans rfl
      have hcz6_13 : w3.cell? ⟨gb174, 13, none⟩ = some (.int .u16 a0_13) := (blk_cell BK174.out 13).trans rfl
      have hcz6_14 : w3.cell? ⟨gb174, 14, none⟩ = some (.int .i64 a0_14) := (blk_cell BK174.out 14).trans rfl
      have hcz6_15 : w3.cell? ⟨gb174, 15, none⟩ = some (.bool a0_15) := (blk_cell BK174.out 15).trans rfl
      have hcz6_16 : w3.cell? ⟨gb174, 16, none⟩ = some (.slice A0_16 l0_16.length c0_16) := (blk_cell BK174.out 16).trans rfl
      have hcz6_17 : w3.cell? ⟨gb174, 17, none⟩ = some (.bool a0_17) := (blk_cell BK174.out 17).trans rfl
      have hcz6_18 : w3.cell? ⟨gb174, 18, none⟩ = some (.string a0_18) := (blk_cell BK174.out 18).trans rfl
      have hcz6_19 : w3.cell? ⟨gb174, 19, none⟩ = some (.bool a0_19) := (blk_cell BK174.out 19).trans rfl
      have hcz6_20 : w3.cell? ⟨gb174, 20, none⟩ = some (.string a0_20) := (blk_cell BK174.out 20).trans rfl
      have hfz6_0 := blk_frozen BK174.out 0
      have hfz6_1 := blk_frozen BK174.out 1
      have hfz6_2 := blk_frozen BK174.out 2
      have hfz6_3 := blk_frozen BK174.out 3
      have hfz6_4 := blk_frozen BK174.out 4
      have hfz6_5 := blk_frozen BK174.out 5
      have hfz6_6 := blk_frozen BK174.out 6
      have hfz6_7 := blk_frozen BK174.out 7
      have hfz6_8 := blk_frozen BK174.out 8
      have hfz6_9 := blk_frozen BK174.out 9
      have hfz6_10 := blk_frozen BK174.out 10
      have hfz6_11 := blk_frozen BK174.out 11
      have hfz6_12 := blk_frozen BK174.out 12
      have hfz6_13 := blk_frozen BK174.out 13
      have hfz6_14 := blk_frozen BK174.out 14
      have hfz6_15 := blk_frozen BK174.out 15
      have hfz6_16 := blk_frozen BK174.out 16
      have hfz6_17 := blk_frozen BK174.out 17
      have hfz6_18 := blk_frozen BK174.out 18
      have hfz6_19 := blk_frozen BK174.out 19
      have hfz6_20 := blk_frozen BK174.out 20
      go_wp2
      go_meet
      case rel => exact ⟨_, (true), (by first | rfl | (simp; done) | (simp [*]; done)), H', ⟨by first | omega | exact Nat.le_refl _⟩, ⟨by (with_reducible repeat (first | refine blk_drewN ?_ _ | refine blk_drew ?_ | refine blk_alloc ?_ _)); exact BK174.out⟩, ⟨by repeat (first | (with_reducible first | exact HB.out | apply below_alloc | apply pw_below_drewN | apply below_drew1 | refine below_set ?_ GE174.out) | exact HB.out)⟩⟩
  case rest =>
    clear HC2
    try clear c1
    try clear p2
    try clear c4
    try clear c4b0
    try clear c4b1
    try clear hcz5_0
    try clear hcz5_1
    try clear hcz5_10
    try clear hcz5_11
    try clear hcz5_12
    try clear hcz5_13
    try clear hcz5_14
    try clear hcz5_15
    try clear hcz5_16
    try clear hcz5_17
    try clear hcz5_18
    try clear hcz5_19
    try clear hcz5_2
    try clear hcz5_20
    try clear hcz5_3
    try clear hcz5_4
    try clear hcz5_5
    try clear hcz5_6
    try clear hcz5_7
    try clear hcz5_8
    try clear hcz5_9
    try clear hcz6_0
    try clear hcz6_1
    try clear hcz6_10
    try clear hcz6_11
    try clear hcz6_12
    try clear hcz6_13
    try clear hcz6_14
    try clear hcz6_15
    try clear hcz6_16
    try clear hcz6_17
    try clear hcz6_18
    try clear hcz6_19
    try clear hcz6_2
    try clear hcz6_20
    try clear hcz6_3
    try clear hcz6_4
    try clear hcz6_5
    try clear hcz6_6
    try clear hcz6_7
    try clear hcz6_8
    try clear hcz6_9
    try clear hfz5_0
    try clear hfz5_1
    try clear hfz5_10
    try clear hfz5_11
    try clear hfz5_12
    try clear hfz5_13
    try clear hfz5_14
    try clear hfz5_15
    try clear hfz5_16
    try clear hfz5_17
    try clear hfz5_18
    try clear hfz5_19
    try clear hfz5_2
    try clear hfz5_20
    try clear hfz5_3
    try clear hfz5_4
    try clear hfz5_5
    try clear hfz5_6
    try clear hfz5_7
    try clear hfz5_8
    try clear hfz5_9
    try clear hfz6_0
    try clear hfz6_1
    try clear hfz6_10
    try clear hfz6_11
    try clear hfz6_12
    try clear hfz6_13
    try clear hfz6_14
    try clear hfz6_15
    try clear hfz6_16
    try clear hfz6_17
    try clear hfz6_18
    try clear hfz6_19
    try clear hfz6_2
    try clear hfz6_20
    try clear hfz6_3
    try clear hfz6_4
    try clear hfz6_5
    try clear hfz6_6
    try clear hfz6_7
    try clear hfz6_8
    try clear hfz6_9
    obtain ⟨kq, x16_1, rfl, HA, HJ1, BK174, HB⟩ := hcut
    cases kq with
    | zero => exact absurd HA.out (by simp [file_Path.j0])
    | succ kj1 =>
      have H := HA.out
      clear HA
      simp only [file_Path.j0] at H
      by_cases c7 : x16_1 = true
      · subst c7
        have H1 : (some ((⟨#[]⟩ : ByteArray), 8)) = some (r1, r2) := by rw [if_pos rfl] at H; exact H
        clear H
        have H := H1
        clear H1
        simp only [Option.some.injEq, Prod.mk.injEq] at H
        obtain ⟨rfl, rfl⟩ := H
        go_wp2
        go_ret2
        exact ⟨by first | rfl | (simp [errW_none, errW_some] <;> rfl) | (simp [*, errW_none, errW_some] <;> rfl), by repeat (first | (with_reducible first | exact HB.out | apply below_alloc | apply pw_below_drewN | apply below_drew1 | refine below_set ?_ GE174.out) | exact HB.out)⟩
      · replace c7 := Bool.eq_false_iff.mpr c7
        subst c7
        have H1 : (file_Path.l0 kj1 l0_16 (l0_16.length : Int) 0 a0_0 a0_1 a0_2 a0_3 a0_4 a0_5 a0_6 a0_7 a0_8 a0_9 a0_10 a0_11 a0_12 a0_13 a0_14 a0_15 l0_16 a0_17 a0_18 a0_19 a0_20) = some (r1, r2) := by rw [if_neg (show ¬ (false = true) by decide)] at H; exact H
        clear H
        have H := H1
        clear H1
        have H' := Aside0.mk H
        clear H
        have hcz8_0 : wc.cell? ⟨gb174, 0, none⟩ = some (.string a0_0) := (blk_cell BK174.out 0).trans rfl
        have hcz8_1 : wc.cell? ⟨gb174, 1, none⟩ = some (.string a0_1) := (blk_cell BK174.out 1).trans rfl
        have hcz8_2 : wc.cell? ⟨gb174, 2, none⟩ = some (.string a0_2) := (blk_cell BK174.out 2).trans rfl
        have hcz8_3 : wc.cell? ⟨gb174, 3, none⟩ = some (.int .i64 a0_3) := (blk_cell BK174.out 3).trans rfl
        have hcz8_4 : wc.cell? ⟨gb174, 4, none⟩ = some (.string a0_4) := (blk_cell BK174.out 4).trans rfl
        have hcz8_5 : wc.cell? ⟨gb174, 5, none⟩ = some (.int .u32 a0_5) := (blk_cell BK174.out 5).trans rfl
        have hcz8_6 : wc.cell? ⟨gb174, 6, none⟩ = some (.int .u16 a0_6) := (blk_cell BK174.out 6).trans rfl
        have hcz8_7 : wc.cell? ⟨gb174, 7, none⟩ = some (.int .u16 a0_7) := (blk_cell BK174.out 7).trans rfl
        have hcz8_8 : wc.cell? ⟨gb174, 8, none⟩ = some (.int .u16 a0_8) := (blk_cell BK174.out 8).trans rfl
        have hcz8_9 : wc.cell? ⟨gb174, 9, none⟩ = some (.int .u16 a0_9) := (blk_cell BK174.out 9).trans rfl
        have hcz8_10 : wc.cell? ⟨gb174, 10, none⟩ = some (.int .u16 a0_10) := (blk_cell BK174.out 10).trans rfl
        have hcz8_11 : wc.cell? ⟨gb174, 11, none⟩ = some (.int .u16 a0_11) := (blk_cell BK174.out 11).trans rfl
        have hcz8_12 : wc.cell? ⟨gb174, 12, none⟩ = some (.int .u16 a0_12) := (blk_cell BK174.out 12).trans rfl
        have hcz8_13 : wc.cell? ⟨gb174, 13, none⟩ = some (.int .u16 a0_13) := (blk_cell BK174.out 13).trans rfl
        have hcz8_14 : wc.cell? ⟨gb174, 14, none⟩ = some (.int .i64 a0_14) := (blk_cell BK174.out 14).trans rfl
        have hcz8_15 : wc.cell? ⟨gb174, 15, none⟩ = some (.bool a0_15) := (blk_cell BK174.out 15).trans rfl
        have hcz8_16 : wc.cell? ⟨gb174, 16, none⟩ = some (.slice A0_16 l0_16.length c0_16) := (blk_cell BK174.out 16).trans rfl
        have hcz8_17 : wc.cell? ⟨gb174, 17, none⟩ = some (.bool a0_17) := (blk_cell BK174.out 17).trans rfl
        have hcz8_18 : wc.cell? ⟨gb174, 18, none⟩ = some (.string a0_18) := (blk_cell BK174.out 18).trans rfl
        have hcz8_19 : wc.cell? ⟨gb174, 19, none⟩ = some (.bool a0_19) := (blk_cell BK174.out 19).trans rfl
        have hcz8_20 : wc.cell? ⟨gb174, 20, none⟩ = some (.string a0_20) := (blk_cell BK174.out 20).trans rfl
        have hfz8_0 := blk_frozen BK174.out 0
        have hfz8_1 := blk_frozen BK174.out 1
        have hfz8_2 := blk_frozen BK174.out 2
        have hfz8_3 := blk_frozen BK174.out 3
        have hfz8_4 := blk_frozen BK174.out 4
        have hfz8_5 := blk_frozen BK174.out 5
        have hfz8_6 := blk_frozen BK174.out 6
        have hfz8_7 := blk_frozen BK174.out 7
        have hfz8_8 := blk_frozen BK174.out 8
        have hfz8_9 := blk_frozen BK174.out 9
        have hfz8_10 := blk_frozen BK174.out 10
        have hfz8_11 := blk_frozen BK174.out 11
        have hfz8_12 := blk_frozen BK174.out 12
        have hfz8_13 := blk_frozen BK174.out 13
        have hfz8_14 := blk_frozen BK174.out 14
        have hfz8_15 := blk_frozen BK174.out 15
        have hfz8_16 := blk_frozen BK174.out 16
        have hfz8_17 := blk_frozen BK174.out 17
        have hfz8_18 := blk_frozen BK174.out 18
        have hfz8_19 := blk_frozen BK174.out 19
        have hfz8_20 := blk_frozen BK174.out 20
        go_wp2
        go_loopg [20] kj1 (fun kq v20 w' => ∃ (x20_2 : Int), v20 = .int .i64 x20_2 ∧ Aside0 (file_Path.l0 kq l0_16 (l0_16.length : Int) x20_2 a0_0 a0_1 a0_2 a0_3 a0_4 a0_5 a0_6 a0_7 a0_8 a0_9 a0_10 a0_11 a0_12 a0_13 a0_14 a0_15 l0_16 a0_17 a0_18 a0_19 a0_20 = some (r1, r2)) ∧ Aside0 (kq ≤ kj1) ∧ Aside0 (w'.heap[gb174]? = some (.cells #[.string a0_0, .string a0_1, .string a0_2, .int .i64 a0_3, .string a0_4, .int .u32 a0_5, .int .u16 a0_6, .int .u16 a0_7, .int .u16 a0_8, .int .u16 a0_9, .int .u16 a0_10, .int .u16 a0_11, .int .u16 a0_12, .int .u16 a0_13, .int .i64 a0_14, .bool a0_15, (.slice A0_16 l0_16.length c0_16), .bool a0_17, .string a0_18, .bool a0_19, .string a0_20] 30 (0, 0))) ∧ Aside0 (Below w.heap.size w w'))
        case atStart => exact ⟨(0), (by first | rfl | (simp; done) | (simp [*]; done)), H', ⟨Nat.le_refl _⟩, ⟨by (with_reducible repeat (first | refine blk_drewN ?_ _ | refine blk_drew ?_ | refine blk_alloc ?_ _)); exact BK174.out⟩, ⟨by repeat (first | (with_reducible first | exact HB.out | apply below_alloc | apply pw_below_drewN | apply below_drew1 | refine below_set ?_ GE174.out) | exact HB.out)⟩⟩
        case round =>
          clear H'
          try clear c1
          try clear p2
          try clear c4
          try clear c4b0
          try clear c4b1
          try clear c7
          try clear hcz5_0
          try clear hcz5_1
          try clear hcz5_10
          try clear hcz5_11
          try clear hcz5_12
          try clear hcz5_13
          try clear hcz5_14
          try clear hcz5_15
          try clear hcz5_16
          try clear hcz5_17
          try clear hcz5_18
          try clear hcz5_19
          try clear hcz5_2
          try clear hcz5_20
          try clear hcz5_3
          try clear hcz5_4
          try clear hcz5_5
          try clear hcz5_6
          try clear hcz5_7
          try clear hcz5_8
          try clear hcz5_9
          try clear hcz6_0
          try clear hcz6_1
          try clear hcz6_10
          try clear hcz6_11
          try clear hcz6_12
          try clear hcz6_13
          try clear hcz6_14
          try clear hcz6_15
          try clear hcz6_16
          try clear hcz6_17
          try clear hcz6_18
          try clear hcz6_19
          try clear hcz6_2
          try clear hcz6_20
          try clear hcz6_3
          try clear hcz6_4
          try clear hcz6_5
          try clear hcz6_6
          try clear hcz6_7
          try clear hcz6_8
          try clear hcz6_9
          try clear hcz8_0
          try clear hcz8_1
          try clear hcz8_10
          try clear hcz8_11
          try clear hcz8_12
          try clear hcz8_13
          try clear hcz8_14
          try clear hcz8_15
          try clear hcz8_16
          try clear hcz8_17
          try clear hcz8_18
          try clear hcz8_19
          try clear hcz8_2
          try clear hcz8_20
          try clear hcz8_3
          try clear hcz8_4
          try clear hcz8_5
          try clear hcz8_6
          try clear hcz8_7
          try clear hcz8_8
          try clear hcz8_9
          try clear hfz5_0
          try clear hfz5_1
          try clear hfz5_10
          try clear hfz5_11
          try clear hfz5_12
          try clear hfz5_13
          try clear hfz5_14
          try clear hfz5_15
          try clear hfz5_16
          try clear hfz5_17
          try clear hfz5_18
          try clear hfz5_19
          try clear hfz5_2
          try clear hfz5_20
          try clear hfz5_3
          try clear hfz5_4
          try clear hfz5_5
          try clear hfz5_6
          try clear hfz5_7
          try clear hfz5_8
          try clear hfz5_9
          try clear hfz6_0
          try clear hfz6_1
          try clear hfz6_10
          try clear hfz6_11
          try clear hfz6_12
          try clear hfz6_13
          try clear hfz6_14
          try clear hfz6_15
          try clear hfz6_16
          try clear hfz6_17
          try clear hfz6_18
          try clear hfz6_19
          try clear hfz6_2
          try clear hfz6_20
          try clear hfz6_3
          try clear hfz6_4
          try clear hfz6_5
          try clear hfz6_6
          try clear hfz6_7
          try clear hfz6_8
          try clear hfz6_9
          try clear hfz8_0
          try clear hfz8_1
          try clear hfz8_10
          try clear hfz8_11
          try clear hfz8_12
          try clear hfz8_13
          try clear hfz8_14
          try clear hfz8_15
          try clear hfz8_16
          try clear hfz8_17
          try clear hfz8_18
          try clear hfz8_19
          try clear hfz8_2
          try clear hfz8_20
          try clear hfz8_3
          try clear hfz8_4
          try clear hfz8_5
          try clear hfz8_6
          try clear hfz8_7
          try clear hfz8_8
          try clear hfz8_9
          try clear p2
          obtain ⟨x20_2, rfl, HA, HK2, BK174, HB⟩ := hrel
          cases gk with
          | zero => exact absurd HA.out (by simp [file_Path.l0])
          | succ k2 =>
            have H := HA.out
            clear HA
            simp only [file_Path.l0] at H
            by_cases c9 : x20_2 < (l0_16.length : Int)
            · rw [if_pos c9] at H
              have c9b0 : decide (x20_2 < (l0_16.length : Int)) = true := decide_eq_true c9
              clear c9
              by_cases c10 : 0 ≤ x20_2
              · rw [if_pos c10] at H
                have c10b0 : decide (0 ≤ x20_2) = true := decide_eq_true c10
                clear c10
                by_cases c11 : x20_2 < (l0_16.length : Int)
                · rw [if_pos c11] at H
                  have c11b0 : decide (x20_2 < (l0_16.length : Int)) = true := decide_eq_true c11
                  clear c11
                  replace H := Option.bind_eq_some_iff.mp H
                  obtain ⟨t176, A120, H⟩ := H
                  replace H : ((strings_Contains.f t176 (⟨#[37, 50, 102]⟩ : ByteArray)).bind fun t177 => (if t177 = true then (some ((⟨#[]⟩ : ByteArray), 15)) else ((strings_Contains.f t176 (⟨#[37, 53, 99]⟩ : ByteArray)).bind fun t178 => (if t178 = true then (some ((⟨#[]⟩ : ByteArray), 15)) else (file_Path.l0 k2 l0_16 (l0_16.length : Int) (wrap64 (x20_2 + 1)) a0_0 a0_1 a0_2 a0_3 a0_4 a0_5 a0_6 a0_7 a0_8 a0_9 a0_10 a0_11 a0_12 a0_13 a0_14 a0_15 l0_16 a0_17 a0_18 a0_19 a0_20))))) = some (r1, r2) := H
                  have A12 := Aside0.mk A120
                  clear A120
                  replace H := Option.bind_eq_some_iff.mp H
                  obtain ⟨t177, A130, H⟩ := H
                  replace H : (if t177 = true then (some ((⟨#[]⟩ : ByteArray), 15)) else ((strings_Contains.f t176 (⟨#[37, 53, 99]⟩ : ByteArray)).bind fun t178 => (if t178 = true then (some ((⟨#[]⟩ : ByteArray), 15)) else (file_Path.l0 k2 l0_16 (l0_16.length : Int) (wrap64 (x20_2 + 1)) a0_0 a0_1 a0_2 a0_3 a0_4 a0_5 a0_6 a0_7 a0_8 a0_9 a0_10 a0_11 a0_12 a0_13 a0_14 a0_15 l0_16 a0_17 a0_18 a0_19 a0_20)))) = some (r1, r2) := H
                  have A13 := Aside0.mk A130
                  clear A130
                  by_cases c14 : t177 = true
                  · subst c14
                    have H1 : (some ((⟨#[]⟩ : ByteArray), 15)) = some (r1, r2) := by rw [if_pos rfl] at H; exact H
                    clear H
                    have H := H1
                    clear H1
                    simp only [Option.some.injEq, Prod.mk.injEq] at H
                    obtain ⟨rfl, rfl⟩ := H
                    have p175 : 0 ≤ (x20_2 : Int) := of_decide_eq_true (by first | (with_reducible assumption) | assumption)
                    have q175 : x20_2 < (l0_16.length : Int) := of_decide_eq_true (by first | (with_reducible assumption) | assumption)
                    obtain ⟨ad175, e175, hx175_0⟩ := Kd.at_string HR0_16.out x20_2 p175 q175
                    cases e175
                    replace hx175_0 := (HB.out.cell (World.block_lt_of_cell? w _ hx175_0)).trans hx175_0
                    replace p175 := eq_true p175
                    replace q175 := eq_true q175
                    go_wp2_with (first | ((with_reducible refine gate_callee (f := 23) rfl ?_); refine goesL_ (some 25) rfl rfl Tryd.func23 (by kernel_rfl) rfl #[.string (rdOf ByteArray.empty l0_16 x20_2)] rfl (by (try simp only [List.map_toArray, List.map_cons, List.map_nil]); first | done | rfl | (simp only [List.length_drop, List.length_take]; rfl)) ?_; (with_reducible refine (strings_ToLower.calls (rdOf ByteArray.empty l0_16 x20_2) t176 _ A12.out).mono ?_); rintro e w15 ⟨rfl, hb⟩; refine ⟨_, rfl, ?_⟩; have n0_ := Aside0.mk (blk_below (g := gb174) (o := .cells #[.string a0_0, .string a0_1, .string a0_2, .int .i64 a0_3, .string a0_4, .int .u32 a0_5, .int .u16 a0_6, .int .u16 a0_7, .int .u16 a0_8, .int .u16 a0_9, .int .u16 a0_10, .int .u16 a0_11, .int .u16 a0_12, .int .u16 a0_13, .int .i64 a0_14, .bool a0_15, .slice (some ad175) l0_16.length c0_16, .bool a0_17, .string a0_18, .bool a0_19, .string a0_20] 30 (0, 0)) (by (with_reducible repeat (first | refine blk_drewN ?_ _ | refine blk_drew ?_ | refine blk_alloc ?_ _)); exact BK174.out) hb); have n1_ := Aside0.mk (below_step (by repeat (first | (with_reducible first | exact HB.out | apply below_alloc | apply pw_below_drewN | apply below_drew1 | refine below_set ?_ GE174.out) | exact HB.out)) hb); clear BK174; clear HB; have BK174 := n0_; have HB := n1_; clear n0_ n1_; (try clear hb); (try clear hb2); (try clear hk); (try clear hi)) | ((with_reducible refine gate_callee (f := 24) rfl ?_); refine goesL_ (some 27) rfl rfl Tryd.func24 (by kernel_rfl) rfl #[.string t176, .string (⟨#[37, 50, 102]⟩ : ByteArray)] rfl (by (try simp only [List.map_toArray, List.map_cons, List.map_nil]); first | done | rfl | (simp only [List.length_drop, List.length_take]; rfl)) ?_; (with_reducible refine (strings_Contains.calls t176 (⟨#[37, 50, 102]⟩ : ByteArray) true _ ?side1 A13.out).mono ?_); (case side1 => exact EnvOK.step HE.out (by repeat (first | (with_reducible first | exact HB.out | apply below_alloc | apply pw_below_drewN | apply below_drew1 | refine below_set ?_ GE174.out) | exact HB.out))); rintro e w' ⟨rfl, ⟨nd, rfl⟩⟩; refine ⟨_, rfl, ?_⟩))
                    go_ret2
                    exact ⟨by first | rfl | (simp [errW_none, errW_some] <;> rfl) | (simp [*, errW_none, errW_some] <;> rfl), by repeat (first | (with_reducible first | exact HB.out | apply below_alloc | apply pw_below_drewN | apply below_drew1 | refine below_set ?_ GE174.out) | exact HB.out)⟩
                  · replace c14 := Bool.eq_false_iff.mpr c14
                    subst c14
                    have H1 : ((strings_Contains.f t176 (⟨#[37, 53, 99]⟩ : ByteArray)).bind fun t178 => (if t178 = true then (some ((⟨#[]⟩ : ByteArray), 15)) else (file_Path.l0 k2 l0_16 (l0_16.length : Int) (wrap64 (x20_2 + 1)) a0_0 a0_1 a0_2 a0_3 a0_4 a0_5 a0_6 a0_7 a0_8 a0_9 a0_10 a0_11 a0_12 a0_13 a0_14 a0_15 l0_16 a0_17 a0_18 a0_19 a0_20))) = some (r1, r2) := by rw [if_neg (show ¬ (false = true) by decide)] at H; exact H
                    clear H
                    have H := H1
                    clear H1
                    replace H := Option.bind_eq_some_iff.mp H
                    obtain ⟨t178, A160, H⟩ := H
                    replace H : (if t178 = true then (some ((⟨#[]⟩ : ByteArray), 15)) else (file_Path.l0 k2 l0_16 (l0_16.length : Int) (wrap64 (x20_2 + 1)) a0_0 a0_1 a0_2 a0_3 a0_4 a0_5 a0_6 a0_7 a0_8 a0_9 a0_10 a0_11 a0_12 a0_13 a0_14 a0_15 l0_16 a0_17 a0_18 a0_19 a0_20)) = some (r1, r2) := H
                    have A16 := Aside0.mk A160
                    clear A160
                    by_cases c17 : t178 = true
                    · subst c17
                      have H1 : (some ((⟨#[]⟩ : ByteArray), 15)) = some (r1, r2) := by rw [if_pos rfl] at H; exact H
                      clear H
                      have H := H1
                      clear H1
                      simp only [Option.some.injEq, Prod.mk.injEq] at H
                      obtain ⟨rfl, rfl⟩ := H
                      have p175 : 0 ≤ (x20_2 : Int) := of_decide_eq_true (by first | (with_reducible assumption) | assumption)
                      have q175 : x20_2 < (l0_16.length : Int) := of_decide_eq_true (by first | (with_reducible assumption) | assumption)
                      obtain ⟨ad175, e175, hx175_0⟩ := Kd.at_string HR0_16.out x20_2 p175 q175
                      cases e175
                      replace hx175_0 := (HB.out.cell (World.block_lt_of_cell? w _ hx175_0)).trans hx175_0
                      replace p175 := eq_true p175
                      replace q175 := eq_true q175
                      go_wp2_with (first | ((with_reducible refine gate_callee (f := 23) rfl ?_); refine goesL_ (some 25) rfl rfl Tryd.func23 (by kernel_rfl) rfl #[.string (rdOf ByteArray.empty l0_16 x20_2)] rfl (by (try simp only [List.map_toArray, List.map_cons, List.map_nil]); first | done | rfl | (simp only [List.length_drop, List.length_take]; rfl)) ?_; (with_reducible refine (strings_ToLower.calls (rdOf ByteArray.empty l0_16 x20_2) t176 _ A12.out).mono ?_); rintro e w18 ⟨rfl, hb⟩; refine ⟨_, rfl, ?_⟩; have n0_ := Aside0.mk (blk_below (g := gb174) (o := .cells #[.string a0_0, .string a0_1, .string a0_2, .int .i64 a0_3, .string a0_4, .int .u32 a0_5, .int .u16 a0_6, .int .u16 a0_7, .int .u16 a0_8, .int .u16 a0_9, .int .u16 a0_10, .int .u16 a0_11, .int .u16 a0_12, .int .u16 a0_13, .int .i64 a0_14, .bool a0_15, .slice (some ad175) l0_16.length c0_16, .bool a0_17, .string a0_18, .bool a0_19, .string a0_20] 30 (0, 0)) (by (with_reducible repeat (first | refine blk_drewN ?_ _ | refine blk_drew ?_ | refine blk_alloc ?_ _)); exact BK174.out) hb); have n1_ := Aside0.mk (below_step (by repeat (first | (with_reducible first | exact HB.out | apply below_alloc | apply pw_below_drewN | apply below_drew1 | refine below_set ?_ GE174.out) | exact HB.out)) hb); clear BK174; clear HB; have BK174 := n0_; have HB := n1_; clear n0_ n1_; (try clear hb); (try clear hb2); (try clear hk); (try clear hi)) | ((with_reducible refine gate_callee (f := 24) rfl ?_); refine goesL_ (some 27) rfl rfl Tryd.func24 (by kernel_rfl) rfl #[.string t176, .string (⟨#[37, 50, 102]⟩ : ByteArray)] rfl (by (try simp only [List.map_toArray, List.map_cons, List.map_nil]); first | done | rfl | (simp only [List.length_drop, List.length_take]; rfl)) ?_; (with_reducible refine (strings_Contains.calls t176 (⟨#[37, 50, 102]⟩ : ByteArray) false _ ?side1 A13.out).mono ?_); (case side1 => exact EnvOK.step HE.out (by repeat (first | (with_reducible first | exact HB.out | apply below_alloc | apply pw_below_drewN | apply below_drew1 | refine below_set ?_ GE174.out) | exact HB.out))); rintro e w' ⟨rfl, ⟨nd, rfl⟩⟩; refine ⟨_, rfl, ?_⟩) | (go_at_call 24; (with_reducible refine (strings_Contains.calls t176 (⟨#[37, 53, 99]⟩ : ByteArray) true _ ?side1 A16.out).mono ?_); (case side1 => exact EnvOK.step HE.out (by repeat (first | (with_reducible first | exact HB.out | apply below_alloc | apply pw_below_drewN | apply below_drew1 | refine below_set ?_ GE174.out) | exact HB.out))); rintro e w' ⟨rfl, ⟨nd, rfl⟩⟩))
                      go_ret2
                      exact ⟨by first | rfl | (simp [errW_none, errW_some] <;> rfl) | (simp [*, errW_none, errW_some] <;> rfl), by repeat (first | (with_reducible first | exact HB.out | apply below_alloc | apply pw_below_drewN | apply below_drew1 | refine below_set ?_ GE174.out) | exact HB.out)⟩
                    · replace c17 := Bool.eq_false_iff.mpr c17
                      subst c17
                      have H1 : (file_Path.l0 k2 l0_16 (l0_16.length : Int) (wrap64 (x20_2 + 1)) a0_0 a0_1 a0_2 a0_3 a0_4 a0_5 a0_6 a0_7 a0_8 a0_9 a0_10 a0_11 a0_12 a0_13 a0_14 a0_15 l0_16 a0_17 a0_18 a0_19 a0_20) = some (r1, r2) := by rw [if_neg (show ¬ (false = true) by decide)] at H; exact H
                      clear H
                      have H := H1
                      clear H1
                      have H' := Aside0.mk H
                      clear H
                      have p175 : 0 ≤ (x20_2 : Int) := of_decide_eq_true (by first | (with_reducible assumption) | assumption)
                      have q175 : x20_2 < (l0_16.length : Int) := of_decide_eq_true (by first | (with_reducible assumption) | assumption)
                      obtain ⟨ad175, e175, hx175_0⟩ := Kd.at_string HR0_16.out x20_2 p175 q175
                      cases e175
                      replace hx175_0 := (HB.out.cell (World.block_lt_of_cell? w _ hx175_0)).trans hx175_0
                      replace p175 := eq_true p175
                      replace q175 := eq_true q175
                      go_wp2_with (first | ((with_reducible refine gate_callee (f := 23) rfl ?_); refine goesL_ (some 25) rfl rfl Tryd.func23 (by kernel_rfl) rfl #[.string (rdOf ByteArray.empty l0_16 x20_2)] rfl (by (try simp only [List.map_toArray, List.map_cons, List.map_nil]); first | done | rfl | (simp only [List.length_drop, List.length_take]; rfl)) ?_; (with_reducible refine (strings_ToLower.calls (rdOf ByteArray.empty l0_16 x20_2) t176 _ A12.out).mono ?_); rintro e w19 ⟨rfl, hb⟩; refine ⟨_, rfl, ?_⟩; have n0_ := Aside0.mk (blk_below (g := gb174) (o := .cells #[.string a0_0, .string a0_1, .string a0_2, .int .i64 a0_3, .string a0_4, .int .u32 a0_5, .int .u16 a0_6, .int .u16 a0_7, .int .u16 a0_8, .int .u16 a0_9, .int .u16 a0_10, .int .u16 a0_11, .int .u16 a0_12, .int .u16 a0_13, .int .i64 a0_14, .bool a0_15, .slice (some ad175) l0_16.length c0_16, .bool a0_17, .string a0_18, .bool a0_19, .string a0_20] 30 (0, 0)) (by (with_reducible repeat (first | refine blk_drewN ?_ _ | refine blk_drew ?_ | refine blk_alloc ?_ _)); exact BK174.out) hb); have n1_ := Aside0.mk (below_step (by repeat (first | (with_reducible first | exact HB.out | apply below_alloc | apply pw_below_drewN | apply below_drew1 | refine below_set ?_ GE174.out) | exact HB.out)) hb); clear BK174; clear HB; have BK174 := n0_; have HB := n1_; clear n0_ n1_; (try clear hb); (try clear hb2); (try clear hk); (try clear hi)) | ((with_reducible refine gate_callee (f := 24) rfl ?_); refine goesL_ (some 27) rfl rfl Tryd.func24 (by kernel_rfl) rfl #[.string t176, .string (⟨#[37, 50, 102]⟩ : ByteArray)] rfl (by (try simp only [List.map_toArray, List.map_cons, List.map_nil]); first | done | rfl | (simp only [List.length_drop, List.length_take]; rfl)) ?_; (with_reducible refine (strings_Contains.calls t176 (⟨#[37, 50, 102]⟩ : ByteArray) false _ ?side1 A13.out).mono ?_); (case side1 => exact EnvOK.step HE.out (by repeat (first | (with_reducible first | exact HB.out | apply below_alloc | apply pw_below_drewN | apply below_drew1 | refine below_set ?_ GE174.out) | exact HB.out))); rintro e w' ⟨rfl, ⟨nd, rfl⟩⟩; refine ⟨_, rfl, ?_⟩) | (go_at_call 24; (with_reducible refine (strings_Contains.calls t176 (⟨#[37, 53, 99]⟩ : ByteArray) false _ ?side1 A16.out).mono ?_); (case side1 => exact EnvOK.step HE.out (by repeat (first | (with_reducible first | exact HB.out | apply below_alloc | apply pw_below_drewN | apply below_drew1 | refine below_set ?_ GE174.out) | exact HB.out))); rintro e w' ⟨rfl, ⟨nd, rfl⟩⟩))
                      go_roundg k2
                      case measure => have := HJ1.out; have := HK2.out; omega
                      case rel => exact ⟨(wrap64 (x20_2 + 1)), (by first | rfl | (simp; done) | (simp [*]; done)), H', ⟨by have := HJ1.out; have := HK2.out; omega⟩, ⟨by (with_reducible repeat (first | refine blk_drewN ?_ _ | refine blk_drew ?_ | refine blk_alloc ?_ _)); exact BK174.out⟩, ⟨by repeat (first | (with_reducible first | exact HB.out | apply below_alloc | apply pw_below_drewN | apply below_drew1 | refine below_set ?_ GE174.out) | exact HB.out)⟩⟩
                · rw [if_neg c11] at H
                  exact absurd H (by simp)
              · rw [if_neg c10] at H
                exact absurd H (by simp)
            · rw [if_neg c9] at H
              have c9b0 : decide (x20_2 < (l0_16.length : Int)) = false := decide_eq_false c9
              clear c9
              replace H := Option.bind_eq_some_iff.mp H
              obtain ⟨t179, A200, H⟩ := H
              replace H : (if (l0_16.length : Int) > 0 then (if 1 + t179.size ≤ 9223372036854775807 then ((pct_Decode.f k2 ((⟨#[47]⟩ : ByteArray) ++ t179)).bind fun t180 => (some (strOfNums t180, 0))) else (none)) else ((pct_Decode.f k2 t179).bind fun t183 => (some (strOfNums t183, 0)))) = some (r1, r2) := H
              have A20 := Aside0.mk A200
              clear A200
              by_cases c21 : (l0_16.length : Int) > 0
              · rw [if_pos c21] at H
                have c21b0 : decide (0 < (l0_16.length : Int)) = true := decide_eq_true c21
                have c21b1 : decide (0 < l0_16.length) = true := decide_eq_true (by omega)
                clear c21
                by_cases c22 : 1 + t179.size ≤ 9223372036854775807
                · rw [if_pos c22] at H
                  have c22b0 := eq_true c22
                  have c22b1 : decide (1 + t179.size ≤ 9223372036854775807) = true := decide_eq_true c22
                  try have c22b2 : (9223372036854775807 < 1 + t179.size) = False := eq_false (Nat.not_lt.2 c22)
                  replace H := Option.bind_eq_some_iff.mp H
                  obtain ⟨t180, A230, H⟩ := H
                  replace H : (some (strOfNums t180, 0)) = some (r1, r2) := H
                  have A23 := Aside0.mk A230
                  clear A230
                  simp only [Option.some.injEq, Prod.mk.injEq] at H
                  obtain ⟨rfl, rfl⟩ := H
                  have hcz24_0 : wr.cell? ⟨gb174, 0, none⟩ = some (.string a0_0) := (blk_cell BK174.out 0).trans rfl
                  have hcz24_1 : wr.cell? ⟨gb174, 1, none⟩ = some (.string a0_1) := (blk_cell BK174.out 1).trans rfl
                  have hcz24_2 : wr.cell? ⟨gb174, 2, none⟩ = some (.string a0_2) := (blk_cell BK174.out 2).trans rfl
                  have hcz24_3 : wr.cell? ⟨gb174, 3, none⟩ = some (.int .i64 a0_3) := (blk_cell BK174.out 3).trans rfl
                  have hcz24_4 : wr.cell? ⟨gb174, 4, none⟩ = some (.string a0_4) := (blk_cell BK174.out 4).trans rfl
                  have hcz24_5 : wr.cell? ⟨gb174, 5, none⟩ = some (.int .u32 a0_5) := (blk_cell BK174.out 5).trans rfl
                  have hcz24_6 : wr.cell? ⟨gb174, 6, none⟩ = some (.int .u16 a0_6) := (blk_cell BK174.out 6).trans rfl
                  have hcz24_7 : wr.cell? ⟨gb174, 7, none⟩ = some (.int .u16 a0_7) := (blk_cell BK174.out 7).trans rfl
                  have hcz24_8 : wr.cell? ⟨gb174, 8, none⟩ = some (.int .u16 a0_8) := (blk_cell BK174.out 8).trans rfl
                  have hcz24_9 : wr.cell? ⟨gb174, 9, none⟩ = some (.int .u16 a0_9) := (blk_cell BK174.out 9).trans rfl
                  have hcz24_10 : wr.cell? ⟨gb174, 10, none⟩ = some (.int .u16 a0_10) := (blk_cell BK174.out 10).trans rfl
                  have hcz24_11 : wr.cell? ⟨gb174, 11, none⟩ = some (.int .u16 a0_11) := (blk_cell BK174.out 11).trans rfl
                  have hcz24_12 : wr.cell? ⟨gb174, 12, none⟩ = some (.int .u16 a0_12) := (blk_cell BK174.out 12).trans rfl
                  have hcz24_13 : wr.cell? ⟨gb174, 13, none⟩ = some (.int .u16 a0_13) := (blk_cell BK174.out 13).trans rfl
                  have hcz24_14 : wr.cell? ⟨gb174, 14, none⟩ = some (.int .i64 a0_14) := (blk_cell BK174.out 14).trans rfl
                  have hcz24_15 : wr.cell? ⟨gb174, 15, none⟩ = some (.bool a0_15) := (blk_cell BK174.out 15).trans rfl
                  have hcz24_16 : wr.cell? ⟨gb174, 16, none⟩ = some (.slice A0_16 l0_16.length c0_16) := (blk_cell BK174.out 16).trans rfl
                  have hcz24_17 : wr.cell? ⟨gb174, 17, none⟩ = some (.bool a0_17) := (blk_cell BK174.out 17).trans rfl
                  have hcz24_18 : wr.cell? ⟨gb174, 18, none⟩ = some (.string a0_18) := (blk_cell BK174.out 18).trans rfl
                  have hcz24_19 : wr.cell? ⟨gb174, 19, none⟩ = some (.bool a0_19) := (blk_cell BK174.out 19).trans rfl
                  have hcz24_20 : wr.cell? ⟨gb174, 20, none⟩ = some (.string a0_20) := (blk_cell BK174.out 20).trans rfl
                  have hfz24_0 := blk_frozen BK174.out 0
                  have hfz24_1 := blk_frozen BK174.out 1
                  have hfz24_2 := blk_frozen BK174.out 2
                  have hfz24_3 := blk_frozen BK174.out 3
                  have hfz24_4 := blk_frozen BK174.out 4
                  have hfz24_5 := blk_frozen BK174.out 5
                  have hfz24_6 := blk_frozen BK174.out 6
                  have hfz24_7 := blk_frozen BK174.out 7
                  have hfz24_8 := blk_frozen BK174.out 8
                  have hfz24_9 := blk_frozen BK174.out 9
                  have hfz24_10 := blk_frozen BK174.out 10
                  have hfz24_11 := blk_frozen BK174.out 11
                  have hfz24_12 := blk_frozen BK174.out 12
                  have hfz24_13 := blk_frozen BK174.out 13
                  have hfz24_14 := blk_frozen BK174.out 14
                  have hfz24_15 := blk_frozen BK174.out 15
                  have hfz24_16 := blk_frozen BK174.out 16
                  have hfz24_17 := blk_frozen BK174.out 17
                  have hfz24_18 := blk_frozen BK174.out 18
                  have hfz24_19 := blk_frozen BK174.out 19
                  have hfz24_20 := blk_frozen BK174.out 20
                  go_wp2_with (first | ((with_reducible refine gate_callee (f := 25) rfl ?_); refine goesL_ (some 35) rfl rfl Tryd.func25 (by kernel_rfl) rfl #[.slice A0_16 l0_16.length c0_16, .string (⟨#[47]⟩ : ByteArray)] rfl (by (try simp only [List.map_toArray, List.map_cons, List.map_nil]); first | done | rfl | (simp only [List.length_drop, List.length_take]; rfl)) ?_; (with_reducible refine (strings_Join.calls _ _ l0_16 (⟨#[47]⟩ : ByteArray) t179 _ ?side1 ?side2 A20.out).mono ?_); (case side1 => repeat (first | exact (Kd.C_below HR0_16.out HB.out) | (with_reducible refine Kd.C_alloc ?_ _) | (with_reducible refine Kd.C_drewN ?_ _) | (with_reducible refine Kd.C_drew ?_))); (case side2 => exact HC0_16.out); rintro e w25 ⟨rfl, hb⟩; refine ⟨_, rfl, ?_⟩; have n0_ := Aside0.mk (blk_below (g := gb174) (o := .cells #[.string a0_0, .string a0_1, .string a0_2, .int .i64 a0_3, .string a0_4, .int .u32 a0_5, .int .u16 a0_6, .int .u16 a0_7, .int .u16 a0_8, .int .u16 a0_9, .int .u16 a0_10, .int .u16 a0_11, .int .u16 a0_12, .int .u16 a0_13, .int .i64 a0_14, .bool a0_15, .slice A0_16 l0_16.length c0_16, .bool a0_17, .string a0_18, .bool a0_19, .string a0_20] 30 (0, 0)) (by (with_reducible repeat (first | refine blk_drewN ?_ _ | refine blk_drew ?_ | refine blk_alloc ?_ _)); exact BK174.out) hb); have n1_ := Aside0.mk (below_step (by repeat (first | (with_reducible first | exact HB.out | apply below_alloc | apply pw_below_drewN | apply below_drew1 | refine below_set ?_ GE174.out) | exact HB.out)) hb); clear BK174; clear HB; have BK174 := n0_; have HB := n1_; clear n0_ n1_; (try clear hb); (try clear hb2); (try clear hk); (try clear hi); have hcz26_0 : w25.cell? ⟨gb174, 0, none⟩ = some (.string a0_0) := (blk_cell BK174.out 0).trans rfl; have hcz26_1 : w25.cell? ⟨gb174, 1, none⟩ = some (.string a0_1) := (blk_cell BK174.out 1).trans rfl; have hcz26_2 : w25.cell? ⟨gb174, 2, none⟩ = some (.string a0_2) := (blk_cell BK174.out 2).trans rfl; have hcz26_3 : w25.cell? ⟨gb174, 3, none⟩ = some (.int .i64 a0_3) := (blk_cell BK174.out 3).trans rfl; have hcz26_4 : w25.cell? ⟨gb174, 4, none⟩ = some (.string a0_4) := (blk_cell BK174.out 4).trans rfl; have hcz26_5 : w25.cell? ⟨gb174, 5, none⟩ = some (.int .u32 a0_5) := (blk_cell BK174.out 5).trans rfl; have hcz26_6 : w25.cell? ⟨gb174, 6, none⟩ = some (.int .u16 a0_6) := (blk_cell BK174.out 6).trans rfl; have hcz26_7 : w25.cell? ⟨gb174, 7, none⟩ = some (.int .u16 a0_7) := (blk_cell BK174.out 7).trans rfl; have hcz26_8 : w25.cell? ⟨gb174, 8, none⟩ = some (.int .u16 a0_8) := (blk_cell BK174.out 8).trans rfl; have hcz26_9 : w25.cell? ⟨gb174, 9, none⟩ = some (.int .u16 a0_9) := (blk_cell BK174.out 9).trans rfl; have hcz26_10 : w25.cell? ⟨gb174, 10, none⟩ = some (.int .u16 a0_10) := (blk_cell BK174.out 10).trans rfl; have hcz26_11 : w25.cell? ⟨gb174, 11, none⟩ = some (.int .u16 a0_11) := (blk_cell BK174.out 11).trans rfl; have hcz26_12 : w25.cell? ⟨gb174, 12, none⟩ = some (.int .u16 a0_12) := (blk_cell BK174.out 12).trans rfl; have hcz26_13 : w25.cell? ⟨gb174, 13, none⟩ = some (.int .u16 a0_13) := (blk_cell BK174.out 13).trans rfl; have hcz26_14 : w25.cell? ⟨gb174, 14, none⟩ = some (.int .i64 a0_14) := (blk_cell BK174.out 14).trans rfl; have hcz26_15 : w25.cell? ⟨gb174, 15, none⟩ = some (.bool a0_15) := (blk_cell BK174.out 15).trans rfl; have hcz26_16 : w25.cell? ⟨gb174, 16, none⟩ = some (.slice A0_16 l0_16.length c0_16) := (blk_cell BK174.out 16).trans rfl; have hcz26_17 : w25.cell? ⟨gb174, 17, none⟩ = some (.bool a0_17) := (blk_cell BK174.out 17).trans rfl; have hcz26_18 : w25.cell? ⟨gb174, 18, none⟩ = some (.string a0_18) := (blk_cell BK174.out 18).trans rfl; have hcz26_19 : w25.cell? ⟨gb174, 19, none⟩ = some (.bool a0_19) := (blk_cell BK174.out 19).trans rfl; have hcz26_20 : w25.cell? ⟨gb174, 20, none⟩ = some (.string a0_20) := (blk_cell BK174.out 20).trans rfl; have hfz26_0 := blk_frozen BK174.out 0; have hfz26_1 := blk_frozen BK174.out 1; have hfz26_2 := blk_frozen BK174.out 2; have hfz26_3 := blk_frozen BK174.out 3; have hfz26_4 := blk_frozen BK174.out 4; have hfz26_5 := blk_frozen BK174.out 5; have hfz26_6 := blk_frozen BK174.out 6; have hfz26_7 := blk_frozen BK174.out 7; have hfz26_8 := blk_frozen BK174.out 8; have hfz26_9 := blk_frozen BK174.out 9; have hfz26_10 := blk_frozen BK174.out 10; have hfz26_11 := blk_frozen BK174.out 11; have hfz26_12 := blk_frozen BK174.out 12; have hfz26_13 := blk_frozen BK174.out 13; have hfz26_14 := blk_frozen BK174.out 14; have hfz26_15 := blk_frozen BK174.out 15; have hfz26_16 := blk_frozen BK174.out 16; have hfz26_17 := blk_frozen BK174.out 17; have hfz26_18 := blk_frozen BK174.out 18; have hfz26_19 := blk_frozen BK174.out 19; have hfz26_20 := blk_frozen BK174.out 20) | ((with_reducible refine gate_callee (f := 26) rfl ?_); refine goesL_ (some 43) rfl rfl Tryd.func26 (by kernel_rfl) rfl #[.string ((⟨#[47]⟩ : ByteArray) ++ t179)] rfl (by (try simp only [List.map_toArray, List.map_cons, List.map_nil]); first | done | rfl | (simp only [List.length_drop, List.length_take]; rfl)) ?_; (with_reducible refine (pct_Decode.calls k2 ((⟨#[47]⟩ : ByteArray) ++ t179) t180 _ A23.out).mono ?_); rintro e w27 ⟨v181, rfl, ho0, hb⟩; refine ⟨_, rfl, ?_⟩; have n0_ := Aside0.mk (Kd.R_lower ho0 (below_size (by repeat (first | (with_reducible first | exact HB.out | apply below_alloc | apply pw_below_drewN | apply below_drew1 | refine below_set ?_ GE174.out) | exact HB.out)))); have n1_ := Aside0.mk (blk_below (g := gb174) (o := .cells #[.string a0_0, .string a0_1, .string a0_2, .int .i64 a0_3, .string a0_4, .int .u32 a0_5, .int .u16 a0_6, .int .u16 a0_7, .int .u16 a0_8, .int .u16 a0_9, .int .u16 a0_10, .int .u16 a0_11, .int .u16 a0_12, .int .u16 a0_13, .int .i64 a0_14, .bool a0_15, .slice A0_16 l0_16.length c0_16, .bool a0_17, .string a0_18, .bool a0_19, .string a0_20] 30 (0, 0)) (by (with_reducible repeat (first | refine blk_drewN ?_ _ | refine blk_drew ?_ | refine blk_alloc ?_ _)); exact BK174.out) hb); have n2_ := Aside0.mk (below_step (by repeat (first | (with_reducible first | exact HB.out | apply below_alloc | apply pw_below_drewN | apply below_drew1 | refine below_set ?_ GE174.out) | exact HB.out)) hb); clear BK174; clear HB; have HO182 := n0_; have BK174 := n1_; have HB := n2_; clear n0_ n1_ n2_; (try clear hb); (try clear hb2); (try clear hk); (try clear hi); (try clear ho0); have hcv28 := own_string (P := Tryd.prog) Tryd.underlying42 Tryd.underlying5 Tryd.underlying9 (Kd.own_of_R HO182.out)))
                  go_ret2
                  exact ⟨by first | rfl | (simp [errW_none, errW_some] <;> rfl) | (simp [*, errW_none, errW_some] <;> rfl), by repeat (first | (with_reducible first | exact HB.out | apply below_alloc | apply pw_below_drewN | apply below_drew1 | refine below_set ?_ GE174.out) | exact HB.out)⟩
                · rw [if_neg c22] at H
                  exact absurd H (by simp)
              · rw [if_neg c21] at H
                have c21b0 : decide (0 < (l0_16.length : Int)) = false := decide_eq_false c21
                have c21b1 : decide (0 < l0_16.length) = false := decide_eq_false (by omega)
                clear c21
                replace H := Option.bind_eq_some_iff.mp H
                obtain ⟨t183, A290, H⟩ := H
                replace H : (some (strOfNums t183, 0)) = some (r1, r2) := H
                have A29 := Aside0.mk A290
                clear A290
                simp only [Option.some.injEq, Prod.mk.injEq] at H
                obtain ⟨rfl, rfl⟩ := H
                have hcz30_0 : wr.cell? ⟨gb174, 0, none⟩ = some (.string a0_0) := (blk_cell BK174.out 0).trans rfl
                have hcz30_1 : wr.cell? ⟨gb174, 1, none⟩ = some (.string a0_1) := (blk_cell BK174.out 1).trans rfl
                have hcz30_2 : wr.cell? ⟨gb174, 2, none⟩ = some (.string a0_2) := (blk_cell BK174.out 2).trans rfl
                have hcz30_3 : wr.cell? ⟨gb174, 3, none⟩ = some (.int .i64 a0_3) := (blk_cell BK174.out 3).trans rfl
                have hcz30_4 : wr.cell? ⟨gb174, 4, none⟩ = some (.string a0_4) := (blk_cell BK174.out 4).trans rfl
                have hcz30_5 : wr.cell? ⟨gb174, 5, none⟩ = some (.int .u32 a0_5) := (blk_cell BK174.out 5).trans rfl
                have hcz30_6 : wr.cell? ⟨gb174, 6, none⟩ = some (.int .u16 a0_6) := (blk_cell BK174.out 6).trans rfl
                have hcz30_7 : wr.cell? ⟨gb174, 7, none⟩ = some (.int .u16 a0_7) := (blk_cell BK174.out 7).trans rfl
                have hcz30_8 : wr.cell? ⟨gb174, 8, none⟩ = some (.int .u16 a0_8) := (blk_cell BK174.out 8).trans rfl
                have hcz30_9 : wr.cell? ⟨gb174, 9, none⟩ = some (.int .u16 a0_9) := (blk_cell BK174.out 9).trans rfl
                have hcz30_10 : wr.cell? ⟨gb174, 10, none⟩ = some (.int .u16 a0_10) := (blk_cell BK174.out 10).trans rfl
                have hcz30_11 : wr.cell? ⟨gb174, 11, none⟩ = some (.int .u16 a0_11) := (blk_cell BK174.out 11).trans rfl
                have hcz30_12 : wr.cell? ⟨gb174, 12, none⟩ = some (.int .u16 a0_12) := (blk_cell BK174.out 12).trans rfl
                have hcz30_13 : wr.cell? ⟨gb174, 13, none⟩ = some (.int .u16 a0_13) := (blk_cell BK174.out 13).trans rfl
                have hcz30_14 : wr.cell? ⟨gb174, 14, none⟩ = some (.int .i64 a0_14) := (blk_cell BK174.out 14).trans rfl
                have hcz30_15 : wr.cell? ⟨gb174, 15, none⟩ = some (.bool a0_15) := (blk_cell BK174.out 15).trans rfl
                have hcz30_16 : wr.cell? ⟨gb174, 16, none⟩ = some (.slice A0_16 l0_16.length c0_16) := (blk_cell BK174.out 16).trans rfl
                have hcz30_17 : wr.cell? ⟨gb174, 17, none⟩ = some (.bool a0_17) := (blk_cell BK174.out 17).trans rfl
                have hcz30_18 : wr.cell? ⟨gb174, 18, none⟩ = some (.string a0_18) := (blk_cell BK174.out 18).trans rfl
                have hcz30_19 : wr.cell? ⟨gb174, 19, none⟩ = some (.bool a0_19) := (blk_cell BK174.out 19).trans rfl
                have hcz30_20 : wr.cell? ⟨gb174, 20, none⟩ = some (.string a0_20) := (blk_cell BK174.out 20).trans rfl
                have hfz30_0 := blk_frozen BK174.out 0
                have hfz30_1 := blk_frozen BK174.out 1
                have hfz30_2 := blk_frozen BK174.out 2
                have hfz30_3 := blk_frozen BK174.out 3
                have hfz30_4 := blk_frozen BK174.out 4
                have hfz30_5 := blk_frozen BK174.out 5
                have hfz30_6 := blk_frozen BK174.out 6
                have hfz30_7 := blk_frozen BK174.out 7
                have hfz30_8 := blk_frozen BK174.out 8
                have hfz30_9 := blk_frozen BK174.out 9
                have hfz30_10 := blk_frozen BK174.out 10
                have hfz30_11 := blk_frozen BK174.out 11
                have hfz30_12 := blk_frozen BK174.out 12
                have hfz30_13 := blk_frozen BK174.out 13
                have hfz30_14 := blk_frozen BK174.out 14
                have hfz30_15 := blk_frozen BK174.out 15
                have hfz30_16 := blk_frozen BK174.out 16
                have hfz30_17 := blk_frozen BK174.out 17
                have hfz30_18 := blk_frozen BK174.out 18
                have hfz30_19 := blk_frozen BK174.out 19
                have hfz30_20 := blk_frozen BK174.out 20
                go_wp2_with (first | ((with_reducible refine gate_callee (f := 25) rfl ?_); refine goesL_ (some 35) rfl rfl Tryd.func25 (by kernel_rfl) rfl #[.slice A0_16 l0_16.length c0_16, .string (⟨#[47]⟩ : ByteArray)] rfl (by (try simp only [List.map_toArray, List.map_cons, List.map_nil]); first | done | rfl | (simp only [List.length_drop, List.length_take]; rfl)) ?_; (with_reducible refine (strings_Join.calls _ _ l0_16 (⟨#[47]⟩ : ByteArray) t179 _ ?side1 ?side2 A20.out).mono ?_); (case side1 => repeat (first | exact (Kd.C_below HR0_16.out HB.out) | (with_reducible refine Kd.C_alloc ?_ _) | (with_reducible refine Kd.C_drewN ?_ _) | (with_reducible refine Kd.C_drew ?_))); (case side2 => exact HC0_16.out); rintro e w31 ⟨rfl, hb⟩; refine ⟨_, rfl, ?_⟩; have n0_ := Aside0.mk (blk_below (g := gb174) (o := .cells #[.string a0_0, .string a0_1, .string a0_2, .int .i64 a0_3, .string a0_4, .int .u32 a0_5, .int .u16 a0_6, .int .u16 a0_7, .int .u16 a0_8, .int .u16 a0_9, .int .u16 a0_10, .int .u16 a0_11, .int .u16 a0_12, .int .u16 a0_13, .int .i64 a0_14, .bool a0_15, .slice A0_16 l0_16.length c0_16, .bool a0_17, .string a0_18, .bool a0_19, .string a0_20] 30 (0, 0)) (by (with_reducible repeat (first | refine blk_drewN ?_ _ | refine blk_drew ?_ | refine blk_alloc ?_ _)); exact BK174.out) hb); have n1_ := Aside0.mk (below_step (by repeat (first | (with_reducible first | exact HB.out | apply below_alloc | apply pw_below_drewN | apply below_drew1 | refine below_set ?_ GE174.out) | exact HB.out)) hb); clear BK174; clear HB; have BK174 := n0_; have HB := n1_; clear n0_ n1_; (try clear hb); (try clear hb2); (try clear hk); (try clear hi); have hcz32_0 : w31.cell? ⟨gb174, 0, none⟩ = some (.string a0_0) := (blk_cell BK174.out 0).trans rfl; have hcz32_1 : w31.cell? ⟨gb174, 1, none⟩ = some (.string a0_1) := (blk_cell BK174.out 1).trans rfl; have hcz32_2 : w31.cell? ⟨gb174, 2, none⟩ = some (.string a0_2) := (blk_cell BK174.out 2).trans rfl; have hcz32_3 : w31.cell? ⟨gb174, 3, none⟩ = some (.int .i64 a0_3) := (blk_cell BK174.out 3).trans rfl; have hcz32_4 : w31.cell? ⟨gb174, 4, none⟩ = some (.string a0_4) := (blk_cell BK174.out 4).trans rfl; have hcz32_5 : w31.cell? ⟨gb174, 5, none⟩ = some (.int .u32 a0_5) := (blk_cell BK174.out 5).trans rfl; have hcz32_6 : w31.cell? ⟨gb174, 6, none⟩ = some (.int .u16 a0_6) := (blk_cell BK174.out 6).trans rfl; have hcz32_7 : w31.cell? ⟨gb174, 7, none⟩ = some (.int .u16 a0_7) := (blk_cell BK174.out 7).trans rfl; have hcz32_8 : w31.cell? ⟨gb174, 8, none⟩ = some (.int .u16 a0_8) := (blk_cell BK174.out 8).trans rfl; have hcz32_9 : w31.cell? ⟨gb174, 9, none⟩ = some (.int .u16 a0_9) := (blk_cell BK174.out 9).trans rfl; have hcz32_10 : w31.cell? ⟨gb174, 10, none⟩ = some (.int .u16 a0_10) := (blk_cell BK174.out 10).trans rfl; have hcz32_11 : w31.cell? ⟨gb174, 11, none⟩ = some (.int .u16 a0_11) := (blk_cell BK174.out 11).trans rfl; have hcz32_12 : w31.cell? ⟨gb174, 12, none⟩ = some (.int .u16 a0_12) := (blk_cell BK174.out 12).trans rfl; have hcz32_13 : w31.cell? ⟨gb174, 13, none⟩ = some (.int .u16 a0_13) := (blk_cell BK174.out 13).trans rfl; have hcz32_14 : w31.cell? ⟨gb174, 14, none⟩ = some (.int .i64 a0_14) := (blk_cell BK174.out 14).trans rfl; have hcz32_15 : w31.cell? ⟨gb174, 15, none⟩ = some (.bool a0_15) := (blk_cell BK174.out 15).trans rfl; have hcz32_16 : w31.cell? ⟨gb174, 16, none⟩ = some (.slice A0_16 l0_16.length c0_16) := (blk_cell BK174.out 16).trans rfl; have hcz32_17 : w31.cell? ⟨gb174, 17, none⟩ = some (.bool a0_17) := (blk_cell BK174.out 17).trans rfl; have hcz32_18 : w31.cell? ⟨gb174, 18, none⟩ = some (.string a0_18) := (blk_cell BK174.out 18).trans rfl; have hcz32_19 : w31.cell? ⟨gb174, 19, none⟩ = some (.bool a0_19) := (blk_cell BK174.out 19).trans rfl; have hcz32_20 : w31.cell? ⟨gb174, 20, none⟩ = some (.string a0_20) := (blk_cell BK174.out 20).trans rfl; have hfz32_0 := blk_frozen BK174.out 0; have hfz32_1 := blk_frozen BK174.out 1; have hfz32_2 := blk_frozen BK174.out 2; have hfz32_3 := blk_frozen BK174.out 3; have hfz32_4 := blk_frozen BK174.out 4; have hfz32_5 := blk_frozen BK174.out 5; have hfz32_6 := blk_frozen BK174.out 6; have hfz32_7 := blk_frozen BK174.out 7; have hfz32_8 := blk_frozen BK174.out 8; have hfz32_9 := blk_frozen BK174.out 9; have hfz32_10 := blk_frozen BK174.out 10; have hfz32_11 := blk_frozen BK174.out 11; have hfz32_12 := blk_frozen BK174.out 12; have hfz32_13 := blk_frozen BK174.out 13; have hfz32_14 := blk_frozen BK174.out 14; have hfz32_15 := blk_frozen BK174.out 15; have hfz32_16 := blk_frozen BK174.out 16; have hfz32_17 := blk_frozen BK174.out 17; have hfz32_18 := blk_frozen BK174.out 18; have hfz32_19 := blk_frozen BK174.out 19; have hfz32_20 := blk_frozen BK174.out 20) | ((with_reducible refine gate_callee (f := 26) rfl ?_); refine goesL_ (some 43) rfl rfl Tryd.func26 (by kernel_rfl) rfl #[.string t179] rfl (by (try simp only [List.map_toArray, List.map_cons, List.map_nil]); first | done | rfl | (simp only [List.length_drop, List.length_take]; rfl)) ?_; (with_reducible refine (pct_Decode.calls k2 t179 t183 _ A29.out).mono ?_); rintro e w33 ⟨v184, rfl, ho0, hb⟩; refine ⟨_, rfl, ?_⟩; have n0_ := Aside0.mk (Kd.R_lower ho0 (below_size (by repeat (first | (with_reducible first | exact HB.out | apply below_alloc | apply pw_below_drewN | apply below_drew1 | refine below_set ?_ GE174.out) | exact HB.out)))); have n1_ := Aside0.mk (blk_below (g := gb174) (o := .cells #[.string a0_0, .string a0_1, .string a0_2, .int .i64 a0_3, .string a0_4, .int .u32 a0_5, .int .u16 a0_6, .int .u16 a0_7, .int .u16 a0_8, .int .u16 a0_9, .int .u16 a0_10, .int .u16 a0_11, .int .u16 a0_12, .int .u16 a0_13, .int .i64 a0_14, .bool a0_15, .slice A0_16 l0_16.length c0_16, .bool a0_17, .string a0_18, .bool a0_19, .string a0_20] 30 (0, 0)) (by (with_reducible repeat (first | refine blk_drewN ?_ _ | refine blk_drew ?_ | refine blk_alloc ?_ _)); exact BK174.out) hb); have n2_ := Aside0.mk (below_step (by repeat (first | (with_reducible first | exact HB.out | apply below_alloc | apply pw_below_drewN | apply below_drew1 | refine below_set ?_ GE174.out) | exact HB.out)) hb); clear BK174; clear HB; have HO185 := n0_; have BK174 := n1_; have HB := n2_; clear n0_ n1_ n2_; (try clear hb); (try clear hb2); (try clear hk); (try clear hi); (try clear ho0); have hcv34 := own_string (P := Tryd.prog) Tryd.underlying42 Tryd.underlying5 Tryd.underlying9 (Kd.own_of_R HO185.out)))
                go_ret2
                exact ⟨by first | rfl | (simp [errW_none, errW_some] <;> rfl) | (simp [*, errW_none, errW_some] <;> rfl), by repeat (first | (with_reducible first | exact HB.out | apply below_alloc | apply pw_below_drewN | apply below_drew1 | refine below_set ?_ GE174.out) | exact HB.out)⟩

/-! ### gossamerlaw14_awake: function 4 -/
def gossamerlaw14_awake.f (k : Nat)  : Option (Bool) := (file_URL.f k (⟨#[47, 97, 32, 98, 47, 99, 37]⟩ : ByteArray)).bind fun bt186 => ((file_Path.f k bt186.1 bt186.2.1 bt186.2.2.1 bt186.2.2.2.1 bt186.2.2.2.2.1 bt186.2.2.2.2.2.1 bt186.2.2.2.2.2.2.1 bt186.2.2.2.2.2.2.2.1 bt186.2.2.2.2.2.2.2.2.1 bt186.2.2.2.2.2.2.2.2.2.1 bt186.2.2.2.2.2.2.2.2.2.2.1 bt186.2.2.2.2.2.2.2.2.2.2.2.1 bt186.2.2.2.2.2.2.2.2.2.2.2.2.1 bt186.2.2.2.2.2.2.2.2.2.2.2.2.2.1 bt186.2.2.2.2.2.2.2.2.2.2.2.2.2.2.1 bt186.2.2.2.2.2.2.2.2.2.2.2.2.2.2.2.1 bt186.2.2.2.2.2.2.2.2.2.2.2.2.2.2.2.2.1 bt186.2.2.2.2.2.2.2.2.2.2.2.2.2.2.2.2.2.1 bt186.2.2.2.2.2.2.2.2.2.2.2.2.2.2.2.2.2.2.1 bt186.2.2.2.2.2.2.2.2.2.2.2.2.2.2.2.2.2.2.2.1 bt186.2.2.2.2.2.2.2.2.2.2.2.2.2.2.2.2.2.2.2.2.1).bind fun bt211 => ((file_Folder.f k (⟨#[47]⟩ : ByteArray)).bind fun bt213 => (if bt186.2.2.2.2.2.2.2.2.2.2.2.2.2.2.2.2.2.2.2.2.2 = 0 then (if (bt186.2.2.2.2.2.2.2.2.2.2.2.2.2.2.2.2.1.length : Int) = 2 then (if 0 < (bt186.2.2.2.2.2.2.2.2.2.2.2.2.2.2.2.2.1.length : Int) then (if (rdOf ByteArray.empty bt186.2.2.2.2.2.2.2.2.2.2.2.2.2.2.2.2.1 0).toList = ([97, 37, 50, 48, 98] : List UInt8) then (if bt211.2 = 0 then (if bt211.1.toList = ([47, 97, 32, 98, 47, 99, 37] : List UInt8) then (if bt213.2.2.2.2.2.2.2.2.2.2.2.2.2.2.2.2.2.2.2.2.2 = 0 then (if (bt213.2.2.2.2.2.2.2.2.2.2.2.2.2.2.2.2.1.length : Int) = 1 then ((file_Clean.f (⟨#[47, 97]⟩ : ByteArray)).bind fun t239 => (if t239 = true then ((file_Clean.f (⟨#[47, 97, 47]⟩ : ByteArray)).bind fun t240 => (some (!t240))) else (none))) else (none)) else (none)) else (none)) else (none)) else (none)) else (none)) else (none)) else (none))))
theorem gossamerlaw14_awake.mono : ∀ k, LeO (gossamerlaw14_awake.f k ) (gossamerlaw14_awake.f (k + 1) ) := by
  intro  k
  unfold gossamerlaw14_awake.f
  repeat' first
      | (with_reducible exact file_Folder.mono _ _)
      | (with_reducible exact file_Path.mono _ _ _ _ _ _ _ _ _ _ _ _ _ _ _ _ _ _ _ _ _ _)
      | (with_reducible exact file_URL.mono _ _)
      | (with_reducible exact LeO.refl _)
      | (with_reducible exact LeO.none _)
      | (with_reducible refine LeO.ite ?_ ?_)
      | (with_reducible refine LeO.bind ?_ (fun _ => ?_))
      | exact file_Folder.mono _ _
      | exact file_Path.mono _ _ _ _ _ _ _ _ _ _ _ _ _ _ _ _ _ _ _ _ _ _
      | exact file_URL.mono _ _
      | exact LeO.none _
      | refine LeO.ite ?_ ?_
      | refine LeO.bind ?_ (fun _ => ?_)
set_option maxHeartbeats 8000000 in
set_option maxRecDepth 100000 in
theorem gossamerlaw14_awake.calls (k : Nat)  (r : Bool) (w : World) (hE : EnvOK w) (h : gossamerlaw14_awake.f k  = some r) :
    Calls Tryd.prog 4 #[] w fun e w' => e = .returned (.bool r) ∧ Below w.heap.size w w' := by
  have hu30 := Tryd.underlying30
  have HE := Aside0.mk hE
  clear hE
  have HB := Aside0.mk (Below.refl w.heap.size w)
  have H : ((file_URL.f k (⟨#[47, 97, 32, 98, 47, 99, 37]⟩ : ByteArray)).bind fun bt186 => ((file_Path.f k bt186.1 bt186.2.1 bt186.2.2.1 bt186.2.2.2.1 bt186.2.2.2.2.1 bt186.2.2.2.2.2.1 bt186.2.2.2.2.2.2.1 bt186.2.2.2.2.2.2.2.1 bt186.2.2.2.2.2.2.2.2.1 bt186.2.2.2.2.2.2.2.2.2.1 bt186.2.2.2.2.2.2.2.2.2.2.1 bt186.2.2.2.2.2.2.2.2.2.2.2.1 bt186.2.2.2.2.2.2.2.2.2.2.2.2.1 bt186.2.2.2.2.2.2.2.2.2.2.2.2.2.1 bt186.2.2.2.2.2.2.2.2.2.2.2.2.2.2.1 bt186.2.2.2.2.2.2.2.2.2.2.2.2.2.2.2.1 bt186.2.2.2.2.2.2.2.2.2.2.2.2.2.2.2.2.1 bt186.2.2.2.2.2.2.2.2.2.2.2.2.2.2.2.2.2.1 bt186.2.2.2.2.2.2.2.2.2.2.2.2.2.2.2.2.2.2.1 bt186.2.2.2.2.2.2.2.2.2.2.2.2.2.2.2.2.2.2.2.1 bt186.2.2.2.2.2.2.2.2.2.2.2.2.2.2.2.2.2.2.2.2.1).bind fun bt211 => ((file_Folder.f k (⟨#[47]⟩ : ByteArray)).bind fun bt213 => (if bt186.2.2.2.2.2.2.2.2.2.2.2.2.2.2.2.2.2.2.2.2.2 = 0 then (if (bt186.2.2.2.2.2.2.2.2.2.2.2.2.2.2.2.2.1.length : Int) = 2 then (if 0 < (bt186.2.2.2.2.2.2.2.2.2.2.2.2.2.2.2.2.1.length : Int) then (if (rdOf ByteArray.empty bt186.2.2.2.2.2.2.2.2.2.2.2.2.2.2.2.2.1 0).toList = ([97, 37, 50, 48, 98] : List UInt8) then (if bt211.2 = 0 then (if bt211.1.toList = ([47, 97, 32, 98, 47, 99, 37] : List UInt8) then (if bt213.2.2.2.2.2.2.2.2.2.2.2.2.2.2.2.2.2.2.2.2.2 = 0 then (if (bt213.2.2.2.2.2.2.2.2.2.2.2.2.2.2.2.2.1.length : Int) = 1 then ((file_Clean.f (⟨#[47, 97]⟩ : ByteArray)).bind fun t239 => (if t239 = true then ((file_Clean.f (⟨#[47, 97, 47]⟩ : ByteArray)).bind fun t240 => (some (!t240))) else (none))) else (none)) else (none)) else (none)) else (none)) else (none)) else (none)) else (none)) else (none))))) = some r := h
  clear h
  replace H := Option.bind_eq_some_iff.mp H
  obtain ⟨⟨t186, t187, t188, t189, t190, t191, t192, t193, t194, t195, t196, t197, t198, t199, t200, t201, t202, t205, t206, t207, t208, t209⟩, A10, H⟩ := H
  replace H : ((file_Path.f k t186 t187 t188 t189 t190 t191 t192 t193 t194 t195 t196 t197 t198 t199 t200 t201 t202 t205 t206 t207 t208).bind fun bt211 => ((file_Folder.f k (⟨#[47]⟩ : ByteArray)).bind fun bt213 => (if t209 = 0 then (if (t202.length : Int) = 2 then (if 0 < (t202.length : Int) then (if (rdOf ByteArray.empty t202 0).toList = ([97, 37, 50, 48, 98] : List UInt8) then (if bt211.2 = 0 then (if bt211.1.toList = ([47, 97, 32, 98, 47, 99, 37] : List UInt8) then (if bt213.2.2.2.2.2.2.2.2.2.2.2.2.2.2.2.2.2.2.2.2.2 = 0 then (if (bt213.2.2.2.2.2.2.2.2.2.2.2.2.2.2.2.2.1.length : Int) = 1 then ((file_Clean.f (⟨#[47, 97]⟩ : ByteArray)).bind fun t239 => (if t239 = true then ((file_Clean.f (⟨#[47, 97, 47]⟩ : ByteArray)).bind fun t240 => (some (!t240))) else (none))) else (none)) else (none)) else (none)) else (none)) else (none)) else (none)) else (none)) else (none)))) = some r := H
  have A1 := Aside0.mk A10
  clear A10
  replace H := Option.bind_eq_some_iff.mp H
  obtain ⟨⟨t211, t212⟩, A20, H⟩ := H
  replace H : ((file_Folder.f k (⟨#[47]⟩ : ByteArray)).bind fun bt213 => (if t209 = 0 then (if (t202.length : Int) = 2 then (if 0 < (t202.length : Int) then (if (rdOf ByteArray.empty t202 0).toList = ([97, 37, 50, 48, 98] : List UInt8) then (if t212 = 0 then (if t211.toList = ([47, 97, 32, 98, 47, 99, 37] : List UInt8) then (if bt213.2.2.2.2.2.2.2.2.2.2.2.2.2.2.2.2.2.2.2.2.2 = 0 then (if (bt213.2.2.2.2.2.2.2.2.2.2.2.2.2.2.2.2.1.length : Int) = 1 then ((file_Clean.f (⟨#[47, 97]⟩ : ByteArray)).bind fun t239 => (if t239 = true then ((file_Clean.f (⟨#[47, 97, 47]⟩ : ByteArray)).bind fun t240 => (some (!t240))) else (none))) else (none)) else (none)) else (none)) else (none)) else (none)) else (none)) else (none)) else (none))) = some r := H
  have A2 := Aside0.mk A20
  clear A20
  replace H := Option.bind_eq_some_iff.mp H
  obtain ⟨⟨t213, t214, t215, t216, t217, t218, t219, t220, t221, t222, t223, t224, t225, t226, t227, t228, t229, t232, t233, t234, t235, t236⟩, A30, H⟩ := H
  replace H : (if t209 = 0 then (if (t202.length : Int) = 2 then (if 0 < (t202.length : Int) then (if (rdOf ByteArray.empty t202 0).toList = ([97, 37, 50, 48, 98] : List UInt8) then (if t212 = 0 then (if t211.toList = ([47, 97, 32, 98, 47, 99, 37] : List UInt8) then (if t236 = 0 then (if (t229.length : Int) = 1 then ((file_Clean.f (⟨#[47, 97]⟩ : ByteArray)).bind fun t239 => (if t239 = true then ((file_Clean.f (⟨#[47, 97, 47]⟩ : ByteArray)).bind fun t240 => (some (!t240))) else (none))) else (none)) else (none)) else (none)) else (none)) else (none)) else (none)) else (none)) else (none)) = some r := H
  have A3 := Aside0.mk A30
  clear A30
  by_cases c4 : t209 = 0
  · rw [if_pos c4] at H
    have c4b0 : (t209 == 0) = true := beq_iff_eq.mpr c4
    have c4b1 : (t209 != 0) = false := bne_eq_false_iff_eq.mpr c4
    clear c4
    by_cases c5 : (t202.length : Int) = 2
    · rw [if_pos c5] at H
      have c5b0 : ((t202.length : Int) == 2) = true := beq_iff_eq.mpr c5
      have c5b1 : ((t202.length : Int) != 2) = false := bne_eq_false_iff_eq.mpr c5
      clear c5
      by_cases c6 : 0 < (t202.length : Int)
      · rw [if_pos c6] at H
        have c6b0 : decide (0 < (t202.length : Int)) = true := decide_eq_true c6
        have c6b1 : decide (0 < t202.length) = true := decide_eq_true (by omega)
        clear c6
        by_cases c7 : (rdOf ByteArray.empty t202 0).toList = ([97, 37, 50, 48, 98] : List UInt8)
        · rw [if_pos c7] at H
          have c7b0 : ((rdOf ByteArray.empty t202 0).toList == ([97, 37, 50, 48, 98] : List UInt8)) = true := beq_iff_eq.mpr c7
          have c7b1 : ((rdOf ByteArray.empty t202 0).toList != ([97, 37, 50, 48, 98] : List UInt8)) = false := bne_eq_false_iff_eq.mpr c7
          clear c7
          by_cases c8 : t212 = 0
          · rw [if_pos c8] at H
            have c8b0 : (t212 == 0) = true := beq_iff_eq.mpr c8
            have c8b1 : (t212 != 0) = false := bne_eq_false_iff_eq.mpr c8
            clear c8
            by_cases c9 : t211.toList = ([47, 97, 32, 98, 47, 99, 37] : List UInt8)
            · rw [if_pos c9] at H
              have c9b0 : (t211.toList == ([47, 97, 32, 98, 47, 99, 37] : List UInt8)) = true := beq_iff_eq.mpr c9
              have c9b1 : (t211.toList != ([47, 97, 32, 98, 47, 99, 37] : List UInt8)) = false := bne_eq_false_iff_eq.mpr c9
              clear c9
              by_cases c10 : t236 = 0
              · rw [if_pos c10] at H
                have c10b0 : (t236 == 0) = true := beq_iff_eq.mpr c10
                have c10b1 : (t236 != 0) = false := bne_eq_false_iff_eq.mpr c10
                clear c10
                by_cases c11 : (t229.length : Int) = 1
                · rw [if_pos c11] at H
                  have c11b0 : ((t229.length : Int) == 1) = true := beq_iff_eq.mpr c11
                  have c11b1 : ((t229.length : Int) != 1) = false := bne_eq_false_iff_eq.mpr c11
                  clear c11
                  replace H := Option.bind_eq_some_iff.mp H
                  obtain ⟨t239, A120, H⟩ := H
                  replace H : (if t239 = true then ((file_Clean.f (⟨#[47, 97, 47]⟩ : ByteArray)).bind fun t240 => (some (!t240))) else (none)) = some r := H
                  have A12 := Aside0.mk A120
                  clear A120
                  by_cases c13 : t239 = true
                  · subst c13
                    have H1 : ((file_Clean.f (⟨#[47, 97, 47]⟩ : ByteArray)).bind fun t240 => (some (!t240))) = some r := by rw [if_pos rfl] at H; exact H
                    clear H
                    have H := H1
                    clear H1
                    replace H := Option.bind_eq_some_iff.mp H
                    obtain ⟨t240, A140, H⟩ := H
                    replace H : (some (!t240)) = some r := H
                    have A14 := Aside0.mk A140
                    clear A140
                    obtain rfl := Option.some.inj H
                    go_enter Tryd.func4, Tryd.ntmps4
                    go_wp2_with (first | ((with_reducible refine gate_callee (f := 5) rfl ?_); refine goesL_ (some 8) rfl rfl Tryd.func5 (by kernel_rfl) rfl #[.string (⟨#[47, 97, 32, 98, 47, 99, 37]⟩ : ByteArray)] rfl (by (try simp only [List.map_toArray, List.map_cons, List.map_nil]); first | done | rfl | (simp only [List.length_drop, List.length_take]; rfl)) ?_; (with_reducible refine (file_URL.calls k (⟨#[47, 97, 32, 98, 47, 99, 37]⟩ : ByteArray) t186 t187 t188 t189 t190 t191 t192 t193 t194 t195 t196 t197 t198 t199 t200 t201 t202 t205 t206 t207 t208 t209 _ ?side1 A1.out).mono ?_); (case side1 => exact EnvOK.step HE.out (by repeat (first | (with_reducible first | exact HB.out | apply below_alloc | apply pw_below_drewN | apply below_drew1) | exact HB.out))); rintro e w15 ⟨v203, rfl, ho0, hb⟩; refine ⟨_, rfl, ?_⟩; have n0_ := Aside0.mk (Kd.R_lower ho0 (below_size (by repeat (first | (with_reducible first | exact HB.out | apply below_alloc | apply pw_below_drewN | apply below_drew1) | exact HB.out)))); have n1_ := Aside0.mk (below_step (by repeat (first | (with_reducible first | exact HB.out | apply below_alloc | apply pw_below_drewN | apply below_drew1) | exact HB.out)) hb); clear HB; have HO204 := n0_; have HB := n1_; clear n0_ n1_; (try clear hb); (try clear hb2); (try clear hk); (try clear hi); (try clear ho0)) | ((with_reducible refine gate_dst (N := 1) rfl ?_); (try (refine gate_guard (by rfl) ?_; dsimp only)); refine box_event ?hg (N := 1) ?hd (cs := #[.string (⟨#[]⟩ : ByteArray), .string (⟨#[]⟩ : ByteArray), .string (⟨#[]⟩ : ByteArray), .int .i64 0, .string (⟨#[]⟩ : ByteArray), .int .u32 0, .int .u16 0, .int .u16 0, .int .u16 0, .int .u16 0, .int .u16 0, .int .u16 0, .int .u16 0, .int .u16 0, .int .i64 0, .bool false, .slice none 0 0, .bool false, .string (⟨#[]⟩ : ByteArray), .bool false, .string (⟨#[]⟩ : ByteArray)]) (t := 30) ?hr ?_; (case hd => rfl); (case hg => rfl); (case hr => first | (go_simp; done) | (go_simp; rfl)); intro gb210 hg w16 hbox hb; have n0_ := Aside0.mk (Kd.R_below (by (with_reducible repeat (first | apply Kd.R_alloc | apply Kd.R_drewN | apply Kd.R_drew)); exact HO204.out) hb); have n1_ := Aside0.mk (below_step (by repeat (first | (with_reducible first | exact HB.out | apply below_alloc | apply pw_below_drewN | apply below_drew1) | exact HB.out)) hb); have n2_ := Aside0.mk (hbox); have n3_ := Aside0.mk ((by rw [hg]; exact (below_size (by repeat (first | (with_reducible first | exact HB.out | apply below_alloc | apply pw_below_drewN | apply below_drew1) | exact HB.out))) : w.heap.size ≤ gb210)); have n4_ := Aside0.mk ((by rw [hg]; exact (below_size (by repeat (first | (with_reducible first | exact HB.out | apply below_alloc | apply pw_below_drewN | apply below_drew1) | exact HB.out))) : w.heap.size ≤ gb210)); clear HO204; clear HB; have HO204 := n0_; have HB := n1_; have BK210 := n2_; have GW210 := n3_; have GE210 := n4_; clear n0_ n1_ n2_ n3_ n4_; clear hb hbox hg; obtain ⟨Ao17, co17, eo17⟩ := Kd.R_slice HO204.out; subst eo17) | ((with_reducible refine gate_store (t := 30) (p := 1) rfl ?_); refine whole_event (t := 30) (p := 1) (v := ?vo_w18) (u := ?vu_w18) (g := gb210) (cs := #[.string t186, .string t187, .string t188, .int .i64 t189, .string t190, .int .u32 t191, .int .u16 t192, .int .u16 t193, .int .u16 t194, .int .u16 t195, .int .u16 t196, .int .u16 t197, .int .u16 t198, .int .u16 t199, .int .i64 t200, .bool t201, .slice Ao17 t202.length co17, .bool t205, .string t206, .bool t207, .string t208]) ?hg ?ho ?hn ?hp ?hv ?hu BK210.out ?hs ?ht ?h1 ?_; (case ho => rfl); (case hg => rfl); (case hn => rfl); (case hp => rfl); (case hv => rfl); (case hu => rfl); (case hs => rfl); (case ht => kernel_rfl); (case h1 => rfl); intro w18 hbox hwk; have n0_ := Aside0.mk (Kd.R_mono (Kd.R_step (Kd.R_types (by (with_reducible repeat (first | apply Kd.R_alloc | apply Kd.R_drewN | apply Kd.R_drew)); exact HO204.out) BK210.out (by decide)) (fun _ hk _ => hwk.2 _ hk.2)) (fun _ hk => hk.1)); have n1_ := Aside0.mk (hbox); have n2_ := Aside0.mk (hwk.below (by repeat (first | (with_reducible first | exact HB.out | apply below_alloc | apply pw_below_drewN | apply below_drew1 | refine below_set ?_ GE210.out) | exact HB.out)) GE210.out); clear HO204; clear BK210; clear HB; have HO204 := n0_; have BK210 := n1_; have HB := n2_; clear n0_ n1_ n2_; clear hbox hwk) | ((with_reducible refine gate_dst (N := 12) rfl ?_); (try (refine gate_guard (by rfl) ?_; dsimp only)); (try (refine gate_guard (by rfl) ?_; dsimp only)); (with_reducible refine gate_load (t := 30) (p := 1) (N := 12) rfl rfl ?_); refine load_event (t := 30) (p := 1) (g := gb210) (T := 30) (cs := #[.string t186, .string t187, .string t188, .int .i64 t189, .string t190, .int .u32 t191, .int .u16 t192, .int .u16 t193, .int .u16 t194, .int .u16 t195, .int .u16 t196, .int .u16 t197, .int .u16 t198, .int .u16 t199, .int .i64 t200, .bool t201, .slice Ao17 t202.length co17, .bool t205, .string t206, .bool t207, .string t208]) ?hg ?ho ?hp ?hb Tryd.underlying30 rfl ?hi ?_; (case ho => rfl); (case hg => rfl); (case hp => rfl); (case hb => exact (by (with_reducible repeat (first | refine blk_drewN ?_ _ | refine blk_drew ?_ | refine blk_alloc ?_ _)); exact BK210.out)); (case hi => kernel_rfl)) | ((with_reducible refine gate_callee (f := 12) rfl ?_); refine goesL_ (some 13) rfl rfl Tryd.func12 (by kernel_rfl) rfl #[.agg #[.string t186, .string t187, .string t188, .int .i64 t189, .string t190, .int .u32 t191, .int .u16 t192, .int .u16 t193, .int .u16 t194, .int .u16 t195, .int .u16 t196, .int .u16 t197, .int .u16 t198, .int .u16 t199, .int .i64 t200, .bool t201, .slice Ao17 t202.length co17, .bool t205, .string t206, .bool t207, .string t208]] rfl (by (try simp only [List.map_toArray, List.map_cons, List.map_nil]); first | done | rfl | (simp only [List.length_drop, List.length_take]; rfl)) ?_; (with_reducible refine (file_Path.calls k t186 t187 t188 t189 t190 t191 t192 t193 t194 t195 t196 t197 t198 t199 t200 t201 _ _ t202 t205 t206 t207 t208 t211 t212 _ ?side1 ?side2 ?side3 A2.out).mono ?_); (case side1 => repeat (first | exact (Kd.R_reads' HO204.out).2.2 | (with_reducible refine Kd.C_alloc ?_ _) | (with_reducible refine Kd.C_drewN ?_ _) | (with_reducible refine Kd.C_drew ?_))); (case side2 => exact (Kd.R_reads' HO204.out).2.1); (case side3 => exact EnvOK.step HE.out (by repeat (first | (with_reducible first | exact HB.out | apply below_alloc | apply pw_below_drewN | apply below_drew1 | refine below_set ?_ GE210.out) | exact HB.out))); rintro e w19 ⟨rfl, hb⟩; refine ⟨_, rfl, ?_⟩; have n0_ := Aside0.mk (Kd.R_below (by (with_reducible repeat (first | apply Kd.R_alloc | apply Kd.R_drewN | apply Kd.R_drew)); exact HO204.out) hb); have n1_ := Aside0.mk (blk_below (g := gb210) (o := .cells #[.string t186, .string t187, .string t188, .int .i64 t189, .string t190, .int .u32 t191, .int .u16 t192, .int .u16 t193, .int .u16 t194, .int .u16 t195, .int .u16 t196, .int .u16 t197, .int .u16 t198, .int .u16 t199, .int .i64 t200, .bool t201, .slice Ao17 t202.length co17, .bool t205, .string t206, .bool t207, .string t208] 30 (0, 0)) (by (with_reducible repeat (first | refine blk_drewN ?_ _ | refine blk_drew ?_ | refine blk_alloc ?_ _)); exact BK210.out) hb); have n2_ := Aside0.mk (below_step (by repeat (first | (with_reducible first | exact HB.out | apply below_alloc | apply pw_below_drewN | apply below_drew1 | refine below_set ?_ GE210.out) | exact HB.out)) hb); clear HO204; clear BK210; clear HB; have HO204 := n0_; have BK210 := n1_; have HB := n2_; clear n0_ n1_ n2_; (try clear hb); (try clear hb2); (try clear hk); (try clear hi)) | ((with_reducible refine gate_callee (f := 7) rfl ?_); refine goesL_ (some 17) rfl rfl Tryd.func7 (by kernel_rfl) rfl #[.string (⟨#[47]⟩ : ByteArray)] rfl (by (try simp only [List.map_toArray, List.map_cons, List.map_nil]); first | done | rfl | (simp only [List.length_drop, List.length_take]; rfl)) ?_; (with_reducible refine (file_Folder.calls k (⟨#[47]⟩ : ByteArray) t213 t214 t215 t216 t217 t218 t219 t220 t221 t222 t223 t224 t225 t226 t227 t228 t229 t232 t233 t234 t235 t236 _ ?side1 A3.out).mono ?_); (case side1 => exact EnvOK.step HE.out (by repeat (first | (with_reducible first | exact HB.out | apply below_alloc | apply pw_below_drewN | apply below_drew1 | refine below_set ?_ GE210.out) | exact HB.out))); rintro e w20 ⟨v230, rfl, ho0, hb⟩; refine ⟨_, rfl, ?_⟩; have n0_ := Aside0.mk (Kd.R_elder' (by (with_reducible repeat (first | apply Kd.R_alloc | apply Kd.R_drewN | apply Kd.R_drew)); exact HO204.out) (Kd.R_base ho0) hb); have n1_ := Aside0.mk (Kd.R_lower (Kd.R_new' ho0 (Kd.R_lt (by (with_reducible repeat (first | apply Kd.R_alloc | apply Kd.R_drewN | apply Kd.R_drew)); exact HO204.out))) (below_size (by repeat (first | (with_reducible first | exact HB.out | apply below_alloc | apply pw_below_drewN | apply below_drew1 | refine below_set ?_ GE210.out) | exact HB.out)))); have n2_ := Aside0.mk (blk_below (g := gb210) (o := .cells #[.string t186, .string t187, .string t188, .int .i64 t189, .string t190, .int .u32 t191, .int .u16 t192, .int .u16 t193, .int .u16 t194, .int .u16 t195, .int .u16 t196, .int .u16 t197, .int .u16 t198, .int .u16 t199, .int .i64 t200, .bool t201, .slice Ao17 t202.length co17, .bool t205, .string t206, .bool t207, .string t208] 30 (0, 0)) (by (with_reducible repeat (first | refine blk_drewN ?_ _ | refine blk_drew ?_ | refine blk_alloc ?_ _)); exact BK210.out) hb); have n3_ := Aside0.mk (below_step (by repeat (first | (with_reducible first | exact HB.out | apply below_alloc | apply pw_below_drewN | apply below_drew1 | refine below_set ?_ GE210.out) | exact HB.out)) hb); clear HO204; clear BK210; clear HB; have HO204 := n0_; have HO231 := n1_; have BK210 := n2_; have HB := n3_; clear n0_ n1_ n2_ n3_; (try clear hb); (try clear hb2); (try clear hk); (try clear hi); (try clear ho0)) | ((with_reducible refine gate_dst (N := 5) rfl ?_); (try (refine gate_guard (by rfl) ?_; dsimp only)); refine box_event ?hg (N := 5) ?hd (cs := #[.string (⟨#[]⟩ : ByteArray), .string (⟨#[]⟩ : ByteArray), .string (⟨#[]⟩ : ByteArray), .int .i64 0, .string (⟨#[]⟩ : ByteArray), .int .u32 0, .int .u16 0, .int .u16 0, .int .u16 0, .int .u16 0, .int .u16 0, .int .u16 0, .int .u16 0, .int .u16 0, .int .i64 0, .bool false, .slice none 0 0, .bool false, .string (⟨#[]⟩ : ByteArray), .bool false, .string (⟨#[]⟩ : ByteArray)]) (t := 30) ?hr ?_; (case hd => rfl); (case hg => rfl); (case hr => first | (go_simp; done) | (go_simp; rfl)); intro gb237 hg w21 hbox hb; have n0_ := Aside0.mk (Kd.R_below (by (with_reducible repeat (first | apply Kd.R_alloc | apply Kd.R_drewN | apply Kd.R_drew)); exact HO204.out) hb); have n1_ := Aside0.mk (Kd.R_below (by (with_reducible repeat (first | apply Kd.R_alloc | apply Kd.R_drewN | apply Kd.R_drew)); exact HO231.out) hb); have n2_ := Aside0.mk (blk_below (g := gb210) (o := .cells #[.string t186, .string t187, .string t188, .int .i64 t189, .string t190, .int .u32 t191, .int .u16 t192, .int .u16 t193, .int .u16 t194, .int .u16 t195, .int .u16 t196, .int .u16 t197, .int .u16 t198, .int .u16 t199, .int .i64 t200, .bool t201, .slice Ao17 t202.length co17, .bool t205, .string t206, .bool t207, .string t208] 30 (0, 0)) (by (with_reducible repeat (first | refine blk_drewN ?_ _ | refine blk_drew ?_ | refine blk_alloc ?_ _)); exact BK210.out) hb); have n3_ := Aside0.mk (below_step (by repeat (first | (with_reducible first | exact HB.out | apply below_alloc | apply pw_below_drewN | apply below_drew1 | refine below_set ?_ GE210.out) | exact HB.out)) hb); have n4_ := Aside0.mk (hbox); have n5_ := Aside0.mk ((by rw [hg]; exact (below_size (by repeat (first | (with_reducible first | exact HB.out | apply below_alloc | apply pw_below_drewN | apply below_drew1 | refine below_set ?_ GE210.out) | exact HB.out))) : w.heap.size ≤ gb237)); have n6_ := Aside0.mk ((by rw [hg]; exact (below_size (by repeat (first | (with_reducible first | exact HB.out | apply below_alloc | apply pw_below_drewN | apply below_drew1 | refine below_set ?_ GE210.out) | exact HB.out))) : w.heap.size ≤ gb237)); have n7_ := Aside0.mk ((by rw [hg]; exact Nat.ne_of_lt (blk_lt (g := gb210) (o := .cells #[.string t186, .string t187, .string t188, .int .i64 t189, .string t190, .int .u32 t191, .int .u16 t192, .int .u16 t193, .int .u16 t194, .int .u16 t195, .int .u16 t196, .int .u16 t197, .int .u16 t198, .int .u16 t199, .int .i64 t200, .bool t201, .slice Ao17 t202.length co17, .bool t205, .string t206, .bool t207, .string t208] 30 (0, 0)) (by (with_reducible repeat (first | refine blk_drewN ?_ _ | refine blk_drew ?_ | refine blk_alloc ?_ _)); exact BK210.out)) : gb210 ≠ gb237)); have n8_ := Aside0.mk ((by rw [hg]; exact Nat.ne_of_gt (blk_lt (g := gb210) (o := .cells #[.string t186, .string t187, .string t188, .int .i64 t189, .string t190, .int .u32 t191, .int .u16 t192, .int .u16 t193, .int .u16 t194, .int .u16 t195, .int .u16 t196, .int .u16 t197, .int .u16 t198, .int .u16 t199, .int .i64 t200, .bool t201, .slice Ao17 t202.length co17, .bool t205, .string t206, .bool t207, .string t208] 30 (0, 0)) (by (with_reducible repeat (first | refine blk_drewN ?_ _ | refine blk_drew ?_ | refine blk_alloc ?_ _)); exact BK210.out)) : gb237 ≠ gb210)); clear HO204; clear HO231; clear BK210; clear HB; have HO204 := n0_; have HO231 := n1_; have BK210 := n2_; have HB := n3_; have BK237 := n4_; have GW237 := n5_; have GE237 := n6_; have NB210_237 := n7_; have NB237_210 := n8_; clear n0_ n1_ n2_ n3_ n4_ n5_ n6_ n7_ n8_; clear hb hbox hg; obtain ⟨Ao22, co22, eo22⟩ := Kd.R_slice HO231.out; subst eo22) | ((with_reducible refine gate_store (t := 30) (p := 5) rfl ?_); refine whole_event (t := 30) (p := 5) (v := ?vo_w23) (u := ?vu_w23) (g := gb237) (cs := #[.string t213, .string t214, .string t215, .int .i64 t216, .string t217, .int .u32 t218, .int .u16 t219, .int .u16 t220, .int .u16 t221, .int .u16 t222, .int .u16 t223, .int .u16 t224, .int .u16 t225, .int .u16 t226, .int .i64 t227, .bool t228, .slice Ao22 t229.length co22, .bool t232, .string t233, .bool t234, .string t235]) ?hg ?ho ?hn ?hp ?hv ?hu BK237.out ?hs ?ht ?h1 ?_; (case ho => rfl); (case hg => rfl); (case hn => rfl); (case hp => rfl); (case hv => rfl); (case hu => rfl); (case hs => rfl); (case ht => kernel_rfl); (case h1 => rfl); intro w23 hbox hwk; have n0_ := Aside0.mk (Kd.R_mono (Kd.R_step (Kd.R_types (by (with_reducible repeat (first | apply Kd.R_alloc | apply Kd.R_drewN | apply Kd.R_drew)); exact HO204.out) BK237.out (by decide)) (fun _ hk _ => hwk.2 _ hk.2)) (fun _ hk => hk.1)); have n1_ := Aside0.mk (blk_whole (k := gb210) (o := .cells #[.string t186, .string t187, .string t188, .int .i64 t189, .string t190, .int .u32 t191, .int .u16 t192, .int .u16 t193, .int .u16 t194, .int .u16 t195, .int .u16 t196, .int .u16 t197, .int .u16 t198, .int .u16 t199, .int .i64 t200, .bool t201, .slice Ao17 t202.length co17, .bool t205, .string t206, .bool t207, .string t208] 30 (0, 0)) (by (with_reducible repeat (first | refine blk_drewN ?_ _ | refine blk_drew ?_ | refine blk_alloc ?_ _)); exact BK210.out) hwk NB210_237.out); have n2_ := Aside0.mk (Kd.R_mono (Kd.R_step (Kd.R_types (by (with_reducible repeat (first | apply Kd.R_alloc | apply Kd.R_drewN | apply Kd.R_drew)); exact HO231.out) BK237.out (by decide)) (fun _ hk _ => hwk.2 _ hk.2)) (fun _ hk => hk.1)); have n3_ := Aside0.mk (hbox); have n4_ := Aside0.mk (hwk.below (by repeat (first | (with_reducible first | exact HB.out | apply below_alloc | apply pw_below_drewN | apply below_drew1 | refine below_set ?_ GE210.out | refine below_set ?_ GE237.out) | exact HB.out)) GE237.out); clear HO204; clear BK210; clear HO231; clear BK237; clear HB; have HO204 := n0_; have BK210 := n1_; have HO231 := n2_; have BK237 := n3_; have HB := n4_; clear n0_ n1_ n2_ n3_ n4_; clear hbox hwk; have hnb24 := NB210_237.out; have hnc24 := NB237_210.out; have hcz25_0 : w23.cell? ⟨gb210, 0, none⟩ = some (.string t186) := (blk_cell BK210.out 0).trans rfl; have hcz25_1 : w23.cell? ⟨gb210, 1, none⟩ = some (.string t187) := (blk_cell BK210.out 1).trans rfl; have hcz25_2 : w23.cell? ⟨gb210, 2, none⟩ = some (.string t188) := (blk_cell BK210.out 2).trans rfl; have hcz25_3 : w23.cell? ⟨gb210, 3, none⟩ = some (.int .i64 t189) := (blk_cell BK210.out 3).trans rfl; have hcz25_4 : w23.cell? ⟨gb210, 4, none⟩ = some (.string t190) := (blk_cell BK210.out 4).trans rfl; have hcz25_5 : w23.cell? ⟨gb210, 5, none⟩ = some (.int .u32 t191) := (blk_cell BK210.out 5).trans rfl; have hcz25_6 : w23.cell? ⟨gb210, 6, none⟩ = some (.int .u16 t192) := (blk_cell BK210.out 6).trans rfl; have hcz25_7 : w23.cell? ⟨gb210, 7, none⟩ = some (.int .u16 t193) := (blk_cell BK210.out 7).trans rfl; have hcz25_8 : w23.cell? ⟨gb210, 8, none⟩ = some (.int .u16 t194) := (blk_cell BK210.out 8).trans rfl; have hcz25_9 : w23.cell? ⟨gb210, 9, none⟩ = some (.int .u16 t195) := (blk_cell BK210.out 9).trans rfl; have hcz25_10 : w23.cell? ⟨gb210, 10, none⟩ = some (.int .u16 t196) := (blk_cell BK210.out 10).trans rfl; have hcz25_11 : w23.cell? ⟨gb210, 11, none⟩ = some (.int .u16 t197) := (blk_cell BK210.out 11).trans rfl; have hcz25_12 : w23.cell? ⟨gb210, 12, none⟩ = some (.int .u16 t198) := (blk_cell BK210.out 12).trans rfl; have hcz25_13 : w23.cell? ⟨gb210, 13, none⟩ = some (.int .u16 t199) := (blk_cell BK210.out 13).trans rfl; have hcz25_14 : w23.cell? ⟨gb210, 14, none⟩ = some (.int .i64 t200) := (blk_cell BK210.out 14).trans rfl; have hcz25_15 : w23.cell? ⟨gb210, 15, none⟩ = some (.bool t201) := (blk_cell BK210.out 15).trans rfl; have hcz25_16 : w23.cell? ⟨gb210, 16, none⟩ = some (.slice Ao17 t202.length co17) := (blk_cell BK210.out 16).trans rfl; have hcz25_17 : w23.cell? ⟨gb210, 17, none⟩ = some (.bool t205) := (blk_cell BK210.out 17).trans rfl; have hcz25_18 : w23.cell? ⟨gb210, 18, none⟩ = some (.string t206) := (blk_cell BK210.out 18).trans rfl; have hcz25_19 : w23.cell? ⟨gb210, 19, none⟩ = some (.bool t207) := (blk_cell BK210.out 19).trans rfl; have hcz25_20 : w23.cell? ⟨gb210, 20, none⟩ = some (.string t208) := (blk_cell BK210.out 20).trans rfl; have hfz25_0 := blk_frozen BK210.out 0; have hfz25_1 := blk_frozen BK210.out 1; have hfz25_2 := blk_frozen BK210.out 2; have hfz25_3 := blk_frozen BK210.out 3; have hfz25_4 := blk_frozen BK210.out 4; have hfz25_5 := blk_frozen BK210.out 5; have hfz25_6 := blk_frozen BK210.out 6; have hfz25_7 := blk_frozen BK210.out 7; have hfz25_8 := blk_frozen BK210.out 8; have hfz25_9 := blk_frozen BK210.out 9; have hfz25_10 := blk_frozen BK210.out 10; have hfz25_11 := blk_frozen BK210.out 11; have hfz25_12 := blk_frozen BK210.out 12; have hfz25_13 := blk_frozen BK210.out 13; have hfz25_14 := blk_frozen BK210.out 14; have hfz25_15 := blk_frozen BK210.out 15; have hfz25_16 := blk_frozen BK210.out 16; have hfz25_17 := blk_frozen BK210.out 17; have hfz25_18 := blk_frozen BK210.out 18; have hfz25_19 := blk_frozen BK210.out 19; have hfz25_20 := blk_frozen BK210.out 20; have p238 : 0 ≤ (0 : Int) := (by omega); have q238 : 0 < (t202.length : Int) := of_decide_eq_true (by first | (with_reducible assumption) | assumption); obtain ⟨ad238, e238, hx238_0⟩ := Kd.at_string (Kd.R_reads' HO204.out).2.2 0 p238 q238; cases e238; have qi238 : (0 < t202.length) = True := eq_true (by omega); (try rw [show ((0 : Int)).toNat = 0 from rfl] at hx238_0); (try rw [Addr.add_zero'] at hx238_0); replace p238 := eq_true p238; replace q238 := eq_true q238; have hcz26_0 : w23.cell? ⟨gb237, 0, none⟩ = some (.string t213) := (blk_cell BK237.out 0).trans rfl; have hcz26_1 : w23.cell? ⟨gb237, 1, none⟩ = some (.string t214) := (blk_cell BK237.out 1).trans rfl; have hcz26_2 : w23.cell? ⟨gb237, 2, none⟩ = some (.string t215) := (blk_cell BK237.out 2).trans rfl; have hcz26_3 : w23.cell? ⟨gb237, 3, none⟩ = some (.int .i64 t216) := (blk_cell BK237.out 3).trans rfl; have hcz26_4 : w23.cell? ⟨gb237, 4, none⟩ = some (.string t217) := (blk_cell BK237.out 4).trans rfl; have hcz26_5 : w23.cell? ⟨gb237, 5, none⟩ = some (.int .u32 t218) := (blk_cell BK237.out 5).trans rfl; have hcz26_6 : w23.cell? ⟨gb237, 6, none⟩ = some (.int .u16 t219) := (blk_cell BK237.out 6).trans rfl; have hcz26_7 : w23.cell? ⟨gb237, 7, none⟩ = some (.int .u16 t220) := (blk_cell BK237.out 7).trans rfl; have hcz26_8 : w23.cell? ⟨gb237, 8, none⟩ = some (.int .u16 t221) := (blk_cell BK237.out 8).trans rfl; have hcz26_9 : w23.cell? ⟨gb237, 9, none⟩ = some (.int .u16 t222) := (blk_cell BK237.out 9).trans rfl; have hcz26_10 : w23.cell? ⟨gb237, 10, none⟩ = some (.int .u16 t223) := (blk_cell BK237.out 10).trans rfl; have hcz26_11 : w23.cell? ⟨gb237, 11, none⟩ = some (.int .u16 t224) := (blk_cell BK237.out 11).trans rfl; have hcz26_12 : w23.cell? ⟨gb237, 12, none⟩ = some (.int .u16 t225) := (blk_cell BK237.out 12).trans rfl; have hcz26_13 : w23.cell? ⟨gb237, 13, none⟩ = some (.int .u16 t226) := (blk_cell BK237.out 13).trans rfl; have hcz26_14 : w23.cell? ⟨gb237, 14, none⟩ = some (.int .i64 t227) := (blk_cell BK237.out 14).trans rfl; have hcz26_15 : w23.cell? ⟨gb237, 15, none⟩ = some (.bool t228) := (blk_cell BK237.out 15).trans rfl; have hcz26_16 : w23.cell? ⟨gb237, 16, none⟩ = some (.slice Ao22 t229.length co22) := (blk_cell BK237.out 16).trans rfl; have hcz26_17 : w23.cell? ⟨gb237, 17, none⟩ = some (.bool t232) := (blk_cell BK237.out 17).trans rfl; have hcz26_18 : w23.cell? ⟨gb237, 18, none⟩ = some (.string t233) := (blk_cell BK237.out 18).trans rfl; have hcz26_19 : w23.cell? ⟨gb237, 19, none⟩ = some (.bool t234) := (blk_cell BK237.out 19).trans rfl; have hcz26_20 : w23.cell? ⟨gb237, 20, none⟩ = some (.string t235) := (blk_cell BK237.out 20).trans rfl; have hfz26_0 := blk_frozen BK237.out 0; have hfz26_1 := blk_frozen BK237.out 1; have hfz26_2 := blk_frozen BK237.out 2; have hfz26_3 := blk_frozen BK237.out 3; have hfz26_4 := blk_frozen BK237.out 4; have hfz26_5 := blk_frozen BK237.out 5; have hfz26_6 := blk_frozen BK237.out 6; have hfz26_7 := blk_frozen BK237.out 7; have hfz26_8 := blk_frozen BK237.out 8; have hfz26_9 := blk_frozen BK237.out 9; have hfz26_10 := blk_frozen BK237.out 10; have hfz26_11 := blk_frozen BK237.out 11; have hfz26_12 := blk_frozen BK237.out 12; have hfz26_13 := blk_frozen BK237.out 13; have hfz26_14 := blk_frozen BK237.out 14; have hfz26_15 := blk_frozen BK237.out 15; have hfz26_16 := blk_frozen BK237.out 16; have hfz26_17 := blk_frozen BK237.out 17; have hfz26_18 := blk_frozen BK237.out 18; have hfz26_19 := blk_frozen BK237.out 19; have hfz26_20 := blk_frozen BK237.out 20) | (go_at_call 9; (with_reducible refine (file_Clean.calls (⟨#[47, 97]⟩ : ByteArray) true _ ?side1 A12.out).mono ?_); (case side1 => exact EnvOK.step HE.out (by repeat (first | (with_reducible first | exact HB.out | apply below_alloc | apply pw_below_drewN | apply below_drew1 | refine below_set ?_ GE210.out | refine below_set ?_ GE237.out) | exact HB.out))); rintro e w27 ⟨rfl, hb⟩; have n0_ := Aside0.mk (Kd.R_below (by (with_reducible repeat (first | apply Kd.R_alloc | apply Kd.R_drewN | apply Kd.R_drew)); exact HO204.out) hb); have n1_ := Aside0.mk (Kd.R_below (by (with_reducible repeat (first | apply Kd.R_alloc | apply Kd.R_drewN | apply Kd.R_drew)); exact HO231.out) hb); have n2_ := Aside0.mk (blk_below (g := gb210) (o := .cells #[.string t186, .string t187, .string t188, .int .i64 t189, .string t190, .int .u32 t191, .int .u16 t192, .int .u16 t193, .int .u16 t194, .int .u16 t195, .int .u16 t196, .int .u16 t197, .int .u16 t198, .int .u16 t199, .int .i64 t200, .bool t201, .slice (some ad238) t202.length co17, .bool t205, .string t206, .bool t207, .string t208] 30 (0, 0)) (by (with_reducible repeat (first | refine blk_drewN ?_ _ | refine blk_drew ?_ | refine blk_alloc ?_ _)); exact BK210.out) hb); have n3_ := Aside0.mk (blk_below (g := gb237) (o := .cells #[.string t213, .string t214, .string t215, .int .i64 t216, .string t217, .int .u32 t218, .int .u16 t219, .int .u16 t220, .int .u16 t221, .int .u16 t222, .int .u16 t223, .int .u16 t224, .int .u16 t225, .int .u16 t226, .int .i64 t227, .bool t228, .slice Ao22 t229.length co22, .bool t232, .string t233, .bool t234, .string t235] 30 (0, 0)) (by (with_reducible repeat (first | refine blk_drewN ?_ _ | refine blk_drew ?_ | refine blk_alloc ?_ _)); exact BK237.out) hb); have n4_ := Aside0.mk (below_step (by repeat (first | (with_reducible first | exact HB.out | apply below_alloc | apply pw_below_drewN | apply below_drew1 | refine below_set ?_ GE210.out | refine below_set ?_ GE237.out) | exact HB.out)) hb); clear HO204; clear HO231; clear BK210; clear BK237; clear HB; have HO204 := n0_; have HO231 := n1_; have BK210 := n2_; have BK237 := n3_; have HB := n4_; clear n0_ n1_ n2_ n3_ n4_; (try clear hb); (try clear hb2); (try clear hk); (try clear hi)) | (go_at_call 9; (with_reducible refine (file_Clean.calls (⟨#[47, 97, 47]⟩ : ByteArray) t240 _ ?side1 A14.out).mono ?_); (case side1 => exact EnvOK.step HE.out (by repeat (first | (with_reducible first | exact HB.out | apply below_alloc | apply pw_below_drewN | apply below_drew1 | refine below_set ?_ GE210.out | refine below_set ?_ GE237.out) | exact HB.out))); rintro e w28 ⟨rfl, hb⟩; have n0_ := Aside0.mk (Kd.R_below (by (with_reducible repeat (first | apply Kd.R_alloc | apply Kd.R_drewN | apply Kd.R_drew)); exact HO204.out) hb); have n1_ := Aside0.mk (Kd.R_below (by (with_reducible repeat (first | apply Kd.R_alloc | apply Kd.R_drewN | apply Kd.R_drew)); exact HO231.out) hb); have n2_ := Aside0.mk (blk_below (g := gb210) (o := .cells #[.string t186, .string t187, .string t188, .int .i64 t189, .string t190, .int .u32 t191, .int .u16 t192, .int .u16 t193, .int .u16 t194, .int .u16 t195, .int .u16 t196, .int .u16 t197, .int .u16 t198, .int .u16 t199, .int .i64 t200, .bool t201, .slice (some ad238) t202.length co17, .bool t205, .string t206, .bool t207, .string t208] 30 (0, 0)) (by (with_reducible repeat (first | refine blk_drewN ?_ _ | refine blk_drew ?_ | refine blk_alloc ?_ _)); exact BK210.out) hb); have n3_ := Aside0.mk (blk_below (g := gb237) (o := .cells #[.string t213, .string t214, .string t215, .int .i64 t216, .string t217, .int .u32 t218, .int .u16 t219, .int .u16 t220, .int .u16 t221, .int .u16 t222, .int .u16 t223, .int .u16 t224, .int .u16 t225, .int .u16 t226, .int .i64 t227, .bool t228, .slice Ao22 t229.length co22, .bool t232, .string t233, .bool t234, .string t235] 30 (0, 0)) (by (with_reducible repeat (first | refine blk_drewN ?_ _ | refine blk_drew ?_ | refine blk_alloc ?_ _)); exact BK237.out) hb); have n4_ := Aside0.mk (below_step (by repeat (first | (with_reducible first | exact HB.out | apply below_alloc | apply pw_below_drewN | apply below_drew1 | refine below_set ?_ GE210.out | refine below_set ?_ GE237.out) | exact HB.out)) hb); clear HO204; clear HO231; clear BK210; clear BK237; clear HB; have HO204 := n0_; have HO231 := n1_; have BK210 := n2_; have BK237 := n3_; have HB := n4_; clear n0_ n1_ n2_ n3_ n4_; (try clear hb); (try clear hb2); (try clear hk); (try clear hi)))
                    go_ret
                    exact ⟨by first | rfl | (simp [errW_none, errW_some] <;> rfl) | (simp [*, errW_none, errW_some] <;> rfl), by repeat (first | (with_reducible first | exact HB.out | apply below_alloc | apply pw_below_drewN | apply below_drew1 | refine below_set ?_ GE210.out | refine below_set ?_ GE237.out) | exact HB.out)⟩
                  · replace c13 := Bool.eq_false_iff.mpr c13
                    subst c13
                    have H1 : (none) = some r := by rw [if_neg (show ¬ (false = true) by decide)] at H; exact H
                    clear H
                    have H := H1
                    clear H1
                    exact absurd H (by simp)
                · rw [if_neg c11] at H
                  exact absurd H (by simp)
              · rw [if_neg c10] at H
                exact absurd H (by simp)
            · rw [if_neg c9] at H
              exact absurd H (by simp)
          · rw [if_neg c8] at H
            exact absurd H (by simp)
        · rw [if_neg c7] at H
          exact absurd H (by simp)
      · rw [if_neg c6] at H
        exact absurd H (by simp)
    · rw [if_neg c5] at H
      exact absurd H (by simp)
  · rw [if_neg c4] at H
    exact absurd H (by simp)

end Go.Proofs.YthnlgnnodgeneaaDoor.PF
