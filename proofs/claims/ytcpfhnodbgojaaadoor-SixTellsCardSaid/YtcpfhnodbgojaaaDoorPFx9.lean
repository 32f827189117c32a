-- WRITTEN BY A PROGRAM OF THIS SESSION (wip/tools/xprint.py, over the kit's print.py).
import Derived.Test.YtcpfhnodbgojaaaDoorPFx0
import Derived.Test.YtcpfhnodbgojaaaDoorPFx8
namespace Go.Proofs.YtcpfhnodbgojaaaDoor.PF
open Go.RowKit Go.Proofs.YtcpfhnodbgojaaaDoorW.PrintWords Go.Proofs.YtcpfhnodbgojaaaDoorW.PrintLast Go.Proofs.YtcpfhnodbgojaaaDoorW.PrintMore Go.Proofs.YtcpfhnodbgojaaaDoorE
attribute [local go_sem] max2_int min2_int max_two min_two max_three min_three max_four min_four   -- for this text's walks alone
set_option linter.unusedVariables false
set_option linter.unusedSimpArgs false

/-! ### gossamerref9_Parse: function 9 -/
mutual
def gossamerref9_Parse.l0 : Nat → ByteArray → Int → Int → Int → Int → Int → Int → Int → Int → Int → Int → Option (Int × Int × Int × Int × Int × Int × Int × Int × Bool)
  | 0, _, _, _, _, _, _, _, _, _, _, _ => none
  | k + 1, x0, x5, x6, x197000, x197001, x197002, x197003, x197004, x197005, x197006, x197007 => if (wrap64 (x6 + 1)) < (x0.size : Int) then (gossamerref9_Parse.j1 k x0 x5 x6 (decide (x5 < 0)) x197000 x197001 x197002 x197003 x197004 x197005 x197006 x197007) else (gossamerref9_Parse.j1 k x0 x5 x6 false x197000 x197001 x197002 x197003 x197004 x197005 x197006 x197007)
def gossamerref9_Parse.j1 : Nat → ByteArray → Int → Int → Bool → Int → Int → Int → Int → Int → Int → Int → Int → Option (Int × Int × Int × Int × Int × Int × Int × Int × Bool)
  | 0, _, _, _, _, _, _, _, _, _, _, _, _ => none
  | k + 1, x0, x5, x6, x24, x197000, x197001, x197002, x197003, x197004, x197005, x197006, x197007 => if x24 = true then (if 0 ≤ x6 then (if x6 < (x0.size : Int) then (if (bt x0 x6) = 58 then (if 0 ≤ (wrap64 (x6 + 1)) then (if (wrap64 (x6 + 1)) < (x0.size : Int) then (if (bt x0 (wrap64 (x6 + 1))) = 58 then (gossamerref9_Parse.l0 k x0 x6 (wrap64 (x6 + 1)) x197000 x197001 x197002 x197003 x197004 x197005 x197006 x197007) else (gossamerref9_Parse.l0 k x0 x5 (wrap64 (x6 + 1)) x197000 x197001 x197002 x197003 x197004 x197005 x197006 x197007)) else (none)) else (none)) else (gossamerref9_Parse.l0 k x0 x5 (wrap64 (x6 + 1)) x197000 x197001 x197002 x197003 x197004 x197005 x197006 x197007)) else (none)) else (none)) else (if x5 < 0 then ((gossamerref9_row.f k x0 true).bind fun bt197 => (if bt197.2 = true then (gossamerref9_Parse.j2 k bt197.1 ((bt197.1.length : Int) != 8) x197000 x197001 x197002 x197003 x197004 x197005 x197006 x197007) else (gossamerref9_Parse.j2 k bt197.1 true x197000 x197001 x197002 x197003 x197004 x197005 x197006 x197007))) else (if 0 ≤ x5 then (if x5 ≤ (x0.size : Int) then ((gossamerref9_row.f k (x0.extract 0 (x5 : Int).toNat) false).bind fun bt202 => (if 0 ≤ (wrap64 (x5 + 2)) then (if (wrap64 (x5 + 2)) ≤ (x0.size : Int) then ((gossamerref9_row.f k (x0.extract ((wrap64 (x5 + 2)) : Int).toNat x0.size) true).bind fun bt206 => (if bt202.2 = true then (if bt206.2 = true then (gossamerref9_Parse.j4 k bt202.1 bt206.1 (decide ((wrap64 ((bt202.1.length : Int) + (bt206.1.length : Int))) > 7)) x197000 x197001 x197002 x197003 x197004 x197005 x197006 x197007) else (gossamerref9_Parse.j4 k bt202.1 bt206.1 true x197000 x197001 x197002 x197003 x197004 x197005 x197006 x197007)) else (gossamerref9_Parse.j4 k bt202.1 bt206.1 true x197000 x197001 x197002 x197003 x197004 x197005 x197006 x197007))) else (none)) else (none))) else (none)) else (none)))
def gossamerref9_Parse.j2 : Nat → List Int → Bool → Int → Int → Int → Int → Int → Int → Int → Int → Option (Int × Int × Int × Int × Int × Int × Int × Int × Bool)
  | 0, _, _, _, _, _, _, _, _, _, _ => none
  | k + 1, x7, x52, x197000, x197001, x197002, x197003, x197004, x197005, x197006, x197007 => if x52 = true then (some (x197000, x197001, x197002, x197003, x197004, x197005, x197006, x197007, false)) else (gossamerref9_Parse.l1 k x7 0 x197000 x197001 x197002 x197003 x197004 x197005 x197006 x197007)
def gossamerref9_Parse.l1 : Nat → List Int → Int → Int → Int → Int → Int → Int → Int → Int → Int → Option (Int × Int × Int × Int × Int × Int × Int × Int × Bool)
  | 0, _, _, _, _, _, _, _, _, _, _ => none
  | k + 1, x7, x9, x197000, x197001, x197002, x197003, x197004, x197005, x197006, x197007 => if x9 < 8 then (if 0 ≤ x9 then (if x9 < (x7.length : Int) then (gossamerref9_Parse.l1 k x7 (wrap64 (x9 + 1)) (if x9 = 0 then IntKind.u16.wrap (rd x7 x9) else x197000) (if x9 = 1 then IntKind.u16.wrap (rd x7 x9) else x197001) (if x9 = 2 then IntKind.u16.wrap (rd x7 x9) else x197002) (if x9 = 3 then IntKind.u16.wrap (rd x7 x9) else x197003) (if x9 = 4 then IntKind.u16.wrap (rd x7 x9) else x197004) (if x9 = 5 then IntKind.u16.wrap (rd x7 x9) else x197005) (if x9 = 6 then IntKind.u16.wrap (rd x7 x9) else x197006) (if x9 = 7 then IntKind.u16.wrap (rd x7 x9) else x197007)) else (none)) else (none)) else (some (x197000, x197001, x197002, x197003, x197004, x197005, x197006, x197007, true))
def gossamerref9_Parse.j4 : Nat → List Int → List Int → Bool → Int → Int → Int → Int → Int → Int → Int → Int → Option (Int × Int × Int × Int × Int × Int × Int × Int × Bool)
  | 0, _, _, _, _, _, _, _, _, _, _, _ => none
  | k + 1, x10, x12, x94, x197000, x197001, x197002, x197003, x197004, x197005, x197006, x197007 => if x94 = true then (some (x197000, x197001, x197002, x197003, x197004, x197005, x197006, x197007, false)) else (gossamerref9_Parse.l2 k x10 x12 0 x197000 x197001 x197002 x197003 x197004 x197005 x197006 x197007)
def gossamerref9_Parse.l2 : Nat → List Int → List Int → Int → Int → Int → Int → Int → Int → Int → Int → Int → Option (Int × Int × Int × Int × Int × Int × Int × Int × Bool)
  | 0, _, _, _, _, _, _, _, _, _, _, _ => none
  | k + 1, x10, x12, x14, x197000, x197001, x197002, x197003, x197004, x197005, x197006, x197007 => if x14 < (x10.length : Int) then (if 0 ≤ x14 then (if x14 < 8 then (gossamerref9_Parse.l2 k x10 x12 (wrap64 (x14 + 1)) (if x14 = 0 then IntKind.u16.wrap (rd x10 x14) else x197000) (if x14 = 1 then IntKind.u16.wrap (rd x10 x14) else x197001) (if x14 = 2 then IntKind.u16.wrap (rd x10 x14) else x197002) (if x14 = 3 then IntKind.u16.wrap (rd x10 x14) else x197003) (if x14 = 4 then IntKind.u16.wrap (rd x10 x14) else x197004) (if x14 = 5 then IntKind.u16.wrap (rd x10 x14) else x197005) (if x14 = 6 then IntKind.u16.wrap (rd x10 x14) else x197006) (if x14 = 7 then IntKind.u16.wrap (rd x10 x14) else x197007)) else (none)) else (none)) else (gossamerref9_Parse.l3 k x12 0 x197000 x197001 x197002 x197003 x197004 x197005 x197006 x197007)
def gossamerref9_Parse.l3 : Nat → List Int → Int → Int → Int → Int → Int → Int → Int → Int → Int → Option (Int × Int × Int × Int × Int × Int × Int × Int × Bool)
  | 0, _, _, _, _, _, _, _, _, _, _ => none
  | k + 1, x12, x15, x197000, x197001, x197002, x197003, x197004, x197005, x197006, x197007 => if x15 < (x12.length : Int) then (if 0 ≤ x15 then (if 0 ≤ (wrap64 ((wrap64 (8 - (x12.length : Int))) + x15)) then (if (wrap64 ((wrap64 (8 - (x12.length : Int))) + x15)) < 8 then (gossamerref9_Parse.l3 k x12 (wrap64 (x15 + 1)) (if (wrap64 ((wrap64 (8 - (x12.length : Int))) + x15)) = 0 then IntKind.u16.wrap (rd x12 x15) else x197000) (if (wrap64 ((wrap64 (8 - (x12.length : Int))) + x15)) = 1 then IntKind.u16.wrap (rd x12 x15) else x197001) (if (wrap64 ((wrap64 (8 - (x12.length : Int))) + x15)) = 2 then IntKind.u16.wrap (rd x12 x15) else x197002) (if (wrap64 ((wrap64 (8 - (x12.length : Int))) + x15)) = 3 then IntKind.u16.wrap (rd x12 x15) else x197003) (if (wrap64 ((wrap64 (8 - (x12.length : Int))) + x15)) = 4 then IntKind.u16.wrap (rd x12 x15) else x197004) (if (wrap64 ((wrap64 (8 - (x12.length : Int))) + x15)) = 5 then IntKind.u16.wrap (rd x12 x15) else x197005) (if (wrap64 ((wrap64 (8 - (x12.length : Int))) + x15)) = 6 then IntKind.u16.wrap (rd x12 x15) else x197006) (if (wrap64 ((wrap64 (8 - (x12.length : Int))) + x15)) = 7 then IntKind.u16.wrap (rd x12 x15) else x197007)) else (none)) else (none)) else (none)) else (some (x197000, x197001, x197002, x197003, x197004, x197005, x197006, x197007, true))
end
def gossamerref9_Parse.f (k : Nat) (a0 : ByteArray) : Option (Int × Int × Int × Int × Int × Int × Int × Int × Bool) := gossamerref9_Parse.l0 k a0 (-1) 0 0 0 0 0 0 0 0 0
theorem gossamerref9_Parse.mono_l : ∀ k, (∀ y0 y1 y2 y3 y4 y5 y6 y7 y8 y9 y10, LeO (gossamerref9_Parse.l0 k y0 y1 y2 y3 y4 y5 y6 y7 y8 y9 y10) (gossamerref9_Parse.l0 (k + 1) y0 y1 y2 y3 y4 y5 y6 y7 y8 y9 y10)) ∧ (∀ y0 y1 y2 y3 y4 y5 y6 y7 y8 y9 y10 y11, LeO (gossamerref9_Parse.j1 k y0 y1 y2 y3 y4 y5 y6 y7 y8 y9 y10 y11) (gossamerref9_Parse.j1 (k + 1) y0 y1 y2 y3 y4 y5 y6 y7 y8 y9 y10 y11)) ∧ (∀ y0 y1 y2 y3 y4 y5 y6 y7 y8 y9, LeO (gossamerref9_Parse.j2 k y0 y1 y2 y3 y4 y5 y6 y7 y8 y9) (gossamerref9_Parse.j2 (k + 1) y0 y1 y2 y3 y4 y5 y6 y7 y8 y9)) ∧ (∀ y0 y1 y2 y3 y4 y5 y6 y7 y8 y9, LeO (gossamerref9_Parse.l1 k y0 y1 y2 y3 y4 y5 y6 y7 y8 y9) (gossamerref9_Parse.l1 (k + 1) y0 y1 y2 y3 y4 y5 y6 y7 y8 y9)) ∧ (∀ y0 y1 y2 y3 y4 y5 y6 y7 y8 y9 y10, LeO (gossamerref9_Parse.j4 k y0 y1 y2 y3 y4 y5 y6 y7 y8 y9 y10) (gossamerref9_Parse.j4 (k + 1) y0 y1 y2 y3 y4 y5 y6 y7 y8 y9 y10)) ∧ (∀ y0 y1 y2 y3 y4 y5 y6 y7 y8 y9 y10, LeO (gossamerref9_Parse.l2 k y0 y1 y2 y3 y4 y5 y6 y7 y8 y9 y10) (gossamerref9_Parse.l2 (k + 1) y0 y1 y2 y3 y4 y5 y6 y7 y8 y9 y10)) ∧ (∀ y0 y1 y2 y3 y4 y5 y6 y7 y8 y9, LeO (gossamerref9_Parse.l3 k y0 y1 y2 y3 y4 y5 y6 y7 y8 y9) (gossamerref9_Parse.l3 (k + 1) y0 y1 y2 y3 y4 y5 y6 y7 y8 y9))
  | 0 => ⟨fun _ _ _ _ _ _ _ _ _ _ _ r h => by simp [gossamerref9_Parse.l0] at h, fun _ _ _ _ _ _ _ _ _ _ _ _ r h => by simp [gossamerref9_Parse.j1] at h, fun _ _ _ _ _ _ _ _ _ _ r h => by simp [gossamerref9_Parse.j2] at h, fun _ _ _ _ _ _ _ _ _ _ r h => by simp [gossamerref9_Parse.l1] at h, fun _ _ _ _ _ _ _ _ _ _ _ r h => by simp [gossamerref9_Parse.j4] at h, fun _ _ _ _ _ _ _ _ _ _ _ r h => by simp [gossamerref9_Parse.l2] at h, fun _ _ _ _ _ _ _ _ _ _ r h => by simp [gossamerref9_Parse.l3] at h⟩
  | k + 1 => by
    obtain ⟨ih0, ih1, ih2, ih3, ih4, ih5, ih6⟩ := gossamerref9_Parse.mono_l k
    refine ⟨?_, ?_, ?_, ?_, ?_, ?_, ?_⟩
    · intro y0 y1 y2 y3 y4 y5 y6 y7 y8 y9 y10
      unfold gossamerref9_Parse.l0
      repeat' first
      | (with_reducible exact ih0 _ _ _ _ _ _ _ _ _ _ _)
      | (with_reducible exact ih1 _ _ _ _ _ _ _ _ _ _ _ _)
      | (with_reducible exact ih2 _ _ _ _ _ _ _ _ _ _)
      | (with_reducible exact ih3 _ _ _ _ _ _ _ _ _ _)
      | (with_reducible exact ih4 _ _ _ _ _ _ _ _ _ _ _)
      | (with_reducible exact ih5 _ _ _ _ _ _ _ _ _ _ _)
      | (with_reducible exact ih6 _ _ _ _ _ _ _ _ _ _)
      | (with_reducible exact gossamerref9_row.mono _ _ _)
      | (with_reducible exact LeO.refl _)
      | (with_reducible exact LeO.none _)
      | (with_reducible refine LeO.ite ?_ ?_)
      | (with_reducible refine LeO.bind ?_ (fun _ => ?_))
      | exact ih0 _ _ _ _ _ _ _ _ _ _ _
      | exact ih1 _ _ _ _ _ _ _ _ _ _ _ _
      | exact ih2 _ _ _ _ _ _ _ _ _ _
      | exact ih3 _ _ _ _ _ _ _ _ _ _
      | exact ih4 _ _ _ _ _ _ _ _ _ _ _
      | exact ih5 _ _ _ _ _ _ _ _ _ _ _
      | exact ih6 _ _ _ _ _ _ _ _ _ _
      | exact gossamerref9_row.mono _ _ _
      | exact LeO.none _
      | refine LeO.ite ?_ ?_
      | refine LeO.bind ?_ (fun _ => ?_)
    · intro y0 y1 y2 y3 y4 y5 y6 y7 y8 y9 y10 y11
      unfold gossamerref9_Parse.j1
      repeat' first
      | (with_reducible exact ih0 _ _ _ _ _ _ _ _ _ _ _)
      | (with_reducible exact ih1 _ _ _ _ _ _ _ _ _ _ _ _)
      | (with_reducible exact ih2 _ _ _ _ _ _ _ _ _ _)
      | (with_reducible exact ih3 _ _ _ _ _ _ _ _ _ _)
      | (with_reducible exact ih4 _ _ _ _ _ _ _ _ _ _ _)
      | (with_reducible exact ih5 _ _ _ _ _ _ _ _ _ _ _)
      | (with_reducible exact ih6 _ _ _ _ _ _ _ _ _ _)
      | (with_reducible exact gossamerref9_row.mono _ _ _)
      | (with_reducible exact LeO.refl _)
      | (with_reducible exact LeO.none _)
      | (with_reducible refine LeO.ite ?_ ?_)
      | (with_reducible refine LeO.bind ?_ (fun _ => ?_))
      | exact ih0 _ _ _ _ _ _ _ _ _ _ _
      | exact ih1 _ _ _ _ _ _ _ _ _ _ _ _
      | exact ih2 _ _ _ _ _ _ _ _ _ _
      | exact ih3 _ _ _ _ _ _ _ _ _ _
      | exact ih4 _ _ _ _ _ _ _ _ _ _ _
      | exact ih5 _ _ _ _ _ _ _ _ _ _ _
      | exact ih6 _ _ _ _ _ _ _ _ _ _
      | exact gossamerref9_row.mono _ _ _
      | exact LeO.none _
      | refine LeO.ite ?_ ?_
      | refine LeO.bind ?_ (fun _ => ?_)
    · intro y0 y1 y2 y3 y4 y5 y6 y7 y8 y9
      unfold gossamerref9_Parse.j2
      repeat' first
      | (with_reducible exact ih0 _ _ _ _ _ _ _ _ _ _ _)
      | (with_reducible exact ih1 _ _ _ _ _ _ _ _ _ _ _ _)
      | (with_reducible exact ih2 _ _ _ _ _ _ _ _ _ _)
      | (with_reducible exact ih3 _ _ _ _ _ _ _ _ _ _)
      | (with_reducible exact ih4 _ _ _ _ _ _ _ _ _ _ _)
      | (with_reducible exact ih5 _ _ _ _ _ _ _ _ _ _ _)
      | (with_reducible exact ih6 _ _ _ _ _ _ _ _ _ _)
      | (with_reducible exact gossamerref9_row.mono _ _ _)
      | (with_reducible exact LeO.refl _)
      | (with_reducible exact LeO.none _)
      | (with_reducible refine LeO.ite ?_ ?_)
      | (with_reducible refine LeO.bind ?_ (fun _ => ?_))
      | exact ih0 _ _ _ _ _ _ _ _ _ _ _
      | exact ih1 _ _ _ _ _ _ _ _ _ _ _ _
      | exact ih2 _ _ _ _ _ _ _ _ _ _
      | exact ih3 _ _ _ _ _ _ _ _ _ _
      | exact ih4 _ _ _ _ _ _ _ _ _ _ _
      | exact ih5 _ _ _ _ _ _ _ _ _ _ _
      | exact ih6 _ _ _ _ _ _ _ _ _ _
      | exact gossamerref9_row.mono _ _ _
      | exact LeO.none _
      | refine LeO.ite ?_ ?_
      | refine LeO.bind ?_ (fun _ => ?_)
    · intro y0 y1 y2 y3 y4 y5 y6 y7 y8 y9
      unfold gossamerref9_Parse.l1
      repeat' first
      | (with_reducible exact ih0 _ _ _ _ _ _ _ _ _ _ _)
      | (with_reducible exact ih1 _ _ _ _ _ _ _ _ _ _ _ _)
      | (with_reducible exact ih2 _ _ _ _ _ _ _ _ _ _)
      | (with_reducible exact ih3 _ _ _ _ _ _ _ _ _ _)
      | (with_reducible exact ih4 _ _ _ _ _ _ _ _ _ _ _)
      | (with_reducible exact ih5 _ _ _ _ _ _ _ _ _ _ _)
      | (with_reducible exact ih6 _ _ _ _ _ _ _ _ _ _)
      | (with_reducible exact gossamerref9_row.mono _ _ _)
      | (with_reducible exact LeO.refl _)
      | (with_reducible exact LeO.none _)
      | (with_reducible refine LeO.ite ?_ ?_)
      | (with_reducible refine LeO.bind ?_ (fun _ => ?_))
      | exact ih0 _ _ _ _ _ _ _ _ _ _ _
      | exact ih1 _ _ _ _ _ _ _ _ _ _ _ _
      | exact ih2 _ _ _ _ _ _ _ _ _ _
      | exact ih3 _ _ _ _ _ _ _ _ _ _
      | exact ih4 _ _ _ _ _ _ _ _ _ _ _
      | exact ih5 _ _ _ _ _ _ _ _ _ _ _
      | exact ih6 _ _ _ _ _ _ _ _ _ _
      | exact gossamerref9_row.mono _ _ _
      | exact LeO.none _
      | refine LeO.ite ?_ ?_
      | refine LeO.bind ?_ (fun _ => ?_)
    · intro y0 y1 y2 y3 y4 y5 y6 y7 y8 y9 y10
      unfold gossamerref9_Parse.j4
      repeat' first
      | (with_reducible exact ih0 _ _ _ _ _ _ _ _ _ _ _)
      | (with_reducible exact ih1 _ _ _ _ _ _ _ _ _ _ _ _)
      | (with_reducible exact ih2 _ _ _ _ _ _ _ _ _ _)
      | (with_reducible exact ih3 _ _ _ _ _ _ _ _ _ _)
      | (with_reducible exact ih4 _ _ _ _ _ _ _ _ _ _ _)
      | (with_reducible exact ih5 _ _ _ _ _ _ _ _ _ _ _)
      | (with_reducible exact ih6 _ _ _ _ _ _ _ _ _ _)
      | (with_reducible exact gossamerref9_row.mono _ _ _)
      | (with_reducible exact LeO.refl _)
      | (with_reducible exact LeO.none _)
      | (with_reducible refine LeO.ite ?_ ?_)
      | (with_reducible refine LeO.bind ?_ (fun _ => ?_))
      | exact ih0 _ _ _ _ _ _ _ _ _ _ _
      | exact ih1 _ _ _ _ _ _ _ _ _ _ _ _
      | exact ih2 _ _ _ _ _ _ _ _ _ _
      | exact ih3 _ _ _ _ _ _ _ _ _ _
      | exact ih4 _ _ _ _ _ _ _ _ _ _ _
      | exact ih5 _ _ _ _ _ _ _ _ _ _ _
      | exact ih6 _ _ _ _ _ _ _ _ _ _
      | exact gossamerref9_row.mono _ _ _
      | exact LeO.none _
      | refine LeO.ite ?_ ?_
      | refine LeO.bind ?_ (fun _ => ?_)
    · intro y0 y1 y2 y3 y4 y5 y6 y7 y8 y9 y10
      unfold gossamerref9_Parse.l2
      repeat' first
      | (with_reducible exact ih0 _ _ _ _ _ _ _ _ _ _ _)
      | (with_reducible exact ih1 _ _ _ _ _ _ _ _ _ _ _ _)
      | (with_reducible exact ih2 _ _ _ _ _ _ _ _ _ _)
      | (with_reducible exact ih3 _ _ _ _ _ _ _ _ _ _)
      | (with_reducible exact ih4 _ _ _ _ _ _ _ _ _ _ _)
      | (with_reducible exact ih5 _ _ _ _ _ _ _ _ _ _ _)
      | (with_reducible exact ih6 _ _ _ _ _ _ _ _ _ _)
      | (with_reducible exact gossamerref9_row.mono _ _ _)
      | (with_reducible exact LeO.refl _)
      | (with_reducible exact LeO.none _)
      | (with_reducible refine LeO.ite ?_ ?_)
      | (with_reducible refine LeO.bind ?_ (fun _ => ?_))
      | exact ih0 _ _ _ _ _ _ _ _ _ _ _
      | exact ih1 _ _ _ _ _ _ _ _ _ _ _ _
      | exact ih2 _ _ _ _ _ _ _ _ _ _
      | exact ih3 _ _ _ _ _ _ _ _ _ _
      | exact ih4 _ _ _ _ _ _ _ _ _ _ _
      | exact ih5 _ _ _ _ _ _ _ _ _ _ _
      | exact ih6 _ _ _ _ _ _ _ _ _ _
      | exact gossamerref9_row.mono _ _ _
      | exact LeO.none _
      | refine LeO.ite ?_ ?_
      | refine LeO.bind ?_ (fun _ => ?_)
    · intro y0 y1 y2 y3 y4 y5 y6 y7 y8 y9
      unfold gossamerref9_Parse.l3
      repeat' first
      | (with_reducible exact ih0 _ _ _ _ _ _ _ _ _ _ _)
      | (with_reducible exact ih1 _ _ _ _ _ _ _ _ _ _ _ _)
      | (with_reducible exact ih2 _ _ _ _ _ _ _ _ _ _)
      | (with_reducible exact ih3 _ _ _ _ _ _ _ _ _ _)
      | (with_reducible exact ih4 _ _ _ _ _ _ _ _ _ _ _)
      | (with_reducible exact ih5 _ _ _ _ _ _ _ _ _ _ _)
      | (with_reducible exact ih6 _ _ _ _ _ _ _ _ _ _)
      | (with_reducible exact gossamerref9_row.mono _ _ _)
      | (with_reducible exact LeO.refl _)
      | (with_reducible exact LeO.none _)
      | (with_reducible refine LeO.ite ?_ ?_)
      | (with_reducible refine LeO.bind ?_ (fun _ => ?_))
      | exact ih0 _ _ _ _ _ _ _ _ _ _ _
      | exact ih1 _ _ _ _ _ _ _ _ _ _ _ _
      | exact ih2 _ _ _ _ _ _ _ _ _ _
      | exact ih3 _ _ _ _ _ _ _ _ _ _
      | exact ih4 _ _ _ _ _ _ _ _ _ _ _
      | exact ih5 _ _ _ _ _ _ _ _ _ _ _
      | exact ih6 _ _ _ _ _ _ _ _ _ _
      | exact gossamerref9_row.mono _ _ _
      | exact LeO.none _
      | refine LeO.ite ?_ ?_
      | refine LeO.bind ?_ (fun _ => ?_)
theorem gossamerref9_Parse.mono : ∀ a0 k, LeO (gossamerref9_Parse.f k a0) (gossamerref9_Parse.f (k + 1) a0) := by
  intro a0 k
  obtain ⟨ih0, ih1, ih2, ih3, ih4, ih5, ih6⟩ := gossamerref9_Parse.mono_l k
  unfold gossamerref9_Parse.f
  repeat' first
      | (with_reducible exact ih0 _ _ _ _ _ _ _ _ _ _ _)
      | (with_reducible exact ih1 _ _ _ _ _ _ _ _ _ _ _ _)
      | (with_reducible exact ih2 _ _ _ _ _ _ _ _ _ _)
      | (with_reducible exact ih3 _ _ _ _ _ _ _ _ _ _)
      | (with_reducible exact ih4 _ _ _ _ _ _ _ _ _ _ _)
      | (with_reducible exact ih5 _ _ _ _ _ _ _ _ _ _ _)
      | (with_reducible exact ih6 _ _ _ _ _ _ _ _ _ _)
      | (with_reducible exact gossamerref9_row.mono _ _ _)
      | (with_reducible exact LeO.refl _)
      | (with_reducible exact LeO.none _)
      | (with_reducible refine LeO.ite ?_ ?_)
      | (with_reducible refine LeO.bind ?_ (fun _ => ?_))
      | exact ih0 _ _ _ _ _ _ _ _ _ _ _
      | exact ih1 _ _ _ _ _ _ _ _ _ _ _ _
      | exact ih2 _ _ _ _ _ _ _ _ _ _
      | exact ih3 _ _ _ _ _ _ _ _ _ _
      | exact ih4 _ _ _ _ _ _ _ _ _ _ _
      | exact ih5 _ _ _ _ _ _ _ _ _ _ _
      | exact ih6 _ _ _ _ _ _ _ _ _ _
      | exact gossamerref9_row.mono _ _ _
      | exact LeO.none _
      | refine LeO.ite ?_ ?_
      | refine LeO.bind ?_ (fun _ => ?_)
set_option maxHeartbeats 8000000 in
set_option maxRecDepth 100000 in
theorem gossamerref9_Parse.calls (k : Nat) (a0 : ByteArray) (r1 : Int) (r2 : Int) (r3 : Int) (r4 : Int) (r5 : Int) (r6 : Int) (r7 : Int) (r8 : Int) (r9 : Bool) (w : World) (h : gossamerref9_Parse.f k a0 = some (r1, r2, r3, r4, r5, r6, r7, r8, r9)) :
    Calls Tryd.prog 9 #[.string a0] w fun e w' => e = .returned (.tuple #[.agg #[.int .u16 r1, .int .u16 r2, .int .u16 r3, .int .u16 r4, .int .u16 r5, .int .u16 r6, .int .u16 r7, .int .u16 r8], .bool r9]) ∧ Below w.heap.size w w' := by
  have hu24 := Tryd.underlying24
  have HB := Aside0.mk (Below.refl w.heap.size w)
  have H : (gossamerref9_Parse.l0 k a0 (-1) 0 0 0 0 0 0 0 0 0) = some (r1, r2, r3, r4, r5, r6, r7, r8, r9) := h
  clear h
  have H' := Aside0.mk H
  clear H
  go_enter Tryd.func9, Tryd.ntmps9
  go_wp2_with (first | ((with_reducible refine gate_dst (N := 2) rfl ?_); (try (refine gate_guard (by rfl) ?_; dsimp only)); refine box_event ?hg (N := 2) ?hd (cs := #[.int .u16 0, .int .u16 0, .int .u16 0, .int .u16 0, .int .u16 0, .int .u16 0, .int .u16 0, .int .u16 0]) (t := 24) ?hr ?_; (case hd => rfl); (case hg => rfl); (case hr => first | (go_simp; done) | (go_simp; rfl)); intro gb195 hg w2 hbox hb; have n0_ := Aside0.mk (below_step (by repeat (first | (with_reducible first | exact HB.out | apply below_alloc | apply pw_below_drewN | apply below_drew1) | exact HB.out)) hb); have n1_ := Aside0.mk (hbox); have n2_ := Aside0.mk ((by rw [hg]; exact (below_size (by repeat (first | (with_reducible first | exact HB.out | apply below_alloc | apply pw_below_drewN | apply below_drew1) | exact HB.out))) : w.heap.size ≤ gb195)); have n3_ := Aside0.mk ((by rw [hg]; exact (below_size (by repeat (first | (with_reducible first | exact HB.out | apply below_alloc | apply pw_below_drewN | apply below_drew1) | exact HB.out))) : w.heap.size ≤ gb195)); clear HB; have HB := n0_; have BK195 := n1_; have GW195 := n2_; have GE195 := n3_; clear n0_ n1_ n2_ n3_; clear hb hbox hg) | ((with_reducible refine gate_dst (N := 4) rfl ?_); (try (refine gate_guard (by rfl) ?_; dsimp only)); refine box_event ?hg (N := 4) ?hd (cs := #[.int .u16 0, .int .u16 0, .int .u16 0, .int .u16 0, .int .u16 0, .int .u16 0, .int .u16 0, .int .u16 0]) (t := 24) ?hr ?_; (case hd => rfl); (case hg => rfl); (case hr => first | (go_simp; done) | (go_simp; rfl)); intro gb196 hg w3 hbox hb; have n0_ := Aside0.mk (blk_below (g := gb195) (o := .cells #[.int .u16 0, .int .u16 0, .int .u16 0, .int .u16 0, .int .u16 0, .int .u16 0, .int .u16 0, .int .u16 0] 24 (0, 0)) (by (with_reducible repeat (first | refine blk_drewN ?_ _ | refine blk_drew ?_ | refine blk_alloc ?_ _)); exact BK195.out) hb); have n1_ := Aside0.mk (below_step (by repeat (first | (with_reducible first | exact HB.out | apply below_alloc | apply pw_below_drewN | apply below_drew1 | refine below_set ?_ GE195.out) | exact HB.out)) hb); have n2_ := Aside0.mk (hbox); have n3_ := Aside0.mk ((by rw [hg]; exact (below_size (by repeat (first | (with_reducible first | exact HB.out | apply below_alloc | apply pw_below_drewN | apply below_drew1 | refine below_set ?_ GE195.out) | exact HB.out))) : w.heap.size ≤ gb196)); have n4_ := Aside0.mk ((by rw [hg]; exact (below_size (by repeat (first | (with_reducible first | exact HB.out | apply below_alloc | apply pw_below_drewN | apply below_drew1 | refine below_set ?_ GE195.out) | exact HB.out))) : w.heap.size ≤ gb196)); have n5_ := Aside0.mk ((by rw [hg]; exact Nat.ne_of_lt (blk_lt (g := gb195) (o := .cells #[.int .u16 0, .int .u16 0, .int .u16 0, .int .u16 0, .int .u16 0, .int .u16 0, .int .u16 0, .int .u16 0] 24 (0, 0)) (by (with_reducible repeat (first | refine blk_drewN ?_ _ | refine blk_drew ?_ | refine blk_alloc ?_ _)); exact BK195.out)) : gb195 ≠ gb196)); have n6_ := Aside0.mk ((by rw [hg]; exact Nat.ne_of_gt (blk_lt (g := gb195) (o := .cells #[.int .u16 0, .int .u16 0, .int .u16 0, .int .u16 0, .int .u16 0, .int .u16 0, .int .u16 0, .int .u16 0] 24 (0, 0)) (by (with_reducible repeat (first | refine blk_drewN ?_ _ | refine blk_drew ?_ | refine blk_alloc ?_ _)); exact BK195.out)) : gb196 ≠ gb195)); clear BK195; clear HB; have BK195 := n0_; have HB := n1_; have BK196 := n2_; have GW196 := n3_; have GE196 := n4_; have NB195_196 := n5_; have NB196_195 := n6_; clear n0_ n1_ n2_ n3_ n4_ n5_ n6_; clear hb hbox hg))
  go_loopg [5, 6] k (fun kq v5 v6 w' => ∃ (x5_1 : Int) (x6_1 : Int), v5 = .int .i64 x5_1 ∧ v6 = .int .i64 x6_1 ∧ Aside0 (gossamerref9_Parse.l0 kq a0 x5_1 x6_1 0 0 0 0 0 0 0 0 = some (r1, r2, r3, r4, r5, r6, r7, r8, r9)) ∧ Aside0 (kq ≤ k) ∧ Aside0 (w'.heap[gb195]? = some (.cells #[.int .u16 0, .int .u16 0, .int .u16 0, .int .u16 0, .int .u16 0, .int .u16 0, .int .u16 0, .int .u16 0] 24 (0, 0))) ∧ Aside0 (w'.heap[gb196]? = some (.cells #[.int .u16 0, .int .u16 0, .int .u16 0, .int .u16 0, .int .u16 0, .int .u16 0, .int .u16 0, .int .u16 0] 24 (0, 0))) ∧ Aside0 (Below w.heap.size w w'))
  case atStart => exact ⟨((-1)), (0), (by first | rfl | (simp; done) | (simp [*]; done)), (by first | rfl | (simp; done) | (simp [*]; done)), H', ⟨Nat.le_refl _⟩, ⟨by (with_reducible repeat (first | refine blk_drewN ?_ _ | refine blk_drew ?_ | refine blk_alloc ?_ _)); exact BK195.out⟩, ⟨by (with_reducible repeat (first | refine blk_drewN ?_ _ | refine blk_drew ?_ | refine blk_alloc ?_ _)); exact BK196.out⟩, ⟨by repeat (first | (with_reducible first | exact HB.out | apply below_alloc | apply pw_below_drewN | apply below_drew1 | refine below_set ?_ GE195.out | refine below_set ?_ GE196.out) | exact HB.out)⟩⟩
  case round =>
    clear H'
    try clear p2
    obtain ⟨x5_1, x6_1, rfl, rfl, HA, HK1, BK195, BK196, HB⟩ := hrel
    cases gk with
    | zero => exact absurd HA.out (by simp [gossamerref9_Parse.l0])
    | succ k1 =>
      have H := HA.out
      clear HA
      simp only [gossamerref9_Parse.l0] at H
      have HC4 := Aside0.mk H
      clear H
      go_upto_region 4 with (fail)
      go_cut [24] (fun v24 wc => ∃ (kq : Nat) (x24_3 : Bool), v24 = .bool x24_3 ∧ Aside0 (gossamerref9_Parse.j1 kq a0 x5_1 x6_1 x24_3 0 0 0 0 0 0 0 0 = some (r1, r2, r3, r4, r5, r6, r7, r8, r9)) ∧ Aside0 (kq ≤ k1) ∧ Aside0 (wc.heap[gb195]? = some (.cells #[.int .u16 0, .int .u16 0, .int .u16 0, .int .u16 0, .int .u16 0, .int .u16 0, .int .u16 0, .int .u16 0] 24 (0, 0))) ∧ Aside0 (wc.heap[gb196]? = some (.cells #[.int .u16 0, .int .u16 0, .int .u16 0, .int .u16 0, .int .u16 0, .int .u16 0, .int .u16 0, .int .u16 0] 24 (0, 0))) ∧ Aside0 (Below w.heap.size w wc))
      case first =>
        have H := HC4.out
        clear HC4
        by_cases c5 : (wrap64 (x6_1 + 1)) < (a0.size : Int)
        · rw [if_pos c5] at H
          have c5b0 : decide ((wrap64 (x6_1 + 1)) < (a0.size : Int)) = true := decide_eq_true c5
          clear c5
          (first | rw [c5b0] | (simp only [i64_w, i32_w]; rw [c5b0]) | skip)
          have H' := Aside0.mk H
          clear H
          go_wp2
          go_meet
          case rel => exact ⟨_, (decide (x5_1 < 0)), (by first | rfl | (simp; done) | (simp [*]; done)), H', ⟨by have := HK1.out; first | omega | exact Nat.le_refl _⟩, ⟨by (with_reducible repeat (first | refine blk_drewN ?_ _ | refine blk_drew ?_ | refine blk_alloc ?_ _)); exact BK195.out⟩, ⟨by (with_reducible repeat (first | refine blk_drewN ?_ _ | refine blk_drew ?_ | refine blk_alloc ?_ _)); exact BK196.out⟩, ⟨by repeat (first | (with_reducible first | exact HB.out | apply below_alloc | apply pw_below_drewN | apply below_drew1 | refine below_set ?_ GE195.out | refine below_set ?_ GE196.out) | exact HB.out)⟩⟩
        · rw [if_neg c5] at H
          have c5b0 : decide ((wrap64 (x6_1 + 1)) < (a0.size : Int)) = false := decide_eq_false c5
          clear c5
          (first | rw [c5b0] | (simp only [i64_w, i32_w]; rw [c5b0]) | skip)
          have H' := Aside0.mk H
          clear H
          go_wp2
          go_meet
          case rel => exact ⟨_, (false), (by first | rfl | (simp; done) | (simp [*]; done)), H', ⟨by have := HK1.out; first | omega | exact Nat.le_refl _⟩, ⟨by (with_reducible repeat (first | refine blk_drewN ?_ _ | refine blk_drew ?_ | refine blk_alloc ?_ _)); exact BK195.out⟩, ⟨by (with_reducible repeat (first | refine blk_drewN ?_ _ | refine blk_drew ?_ | refine blk_alloc ?_ _)); exact BK196.out⟩, ⟨by repeat (first | (with_reducible first | exact HB.out | apply below_alloc | apply pw_below_drewN | apply below_drew1 | refine below_set ?_ GE195.out | refine below_set ?_ GE196.out) | exact HB.out)⟩⟩
      case rest =>
        clear HC4
        try clear p2
        try clear c5
        try clear c5b0
        try clear p2
        obtain ⟨kq, x24_3, rfl, HA, HJ3, BK195, BK196, HB⟩ := hcut
        cases kq with
        | zero => exact absurd HA.out (by simp [gossamerref9_Parse.j1])
        | succ kj3 =>
          have H := HA.out
          clear HA
          simp only [gossamerref9_Parse.j1] at H
          by_cases c6 : x24_3 = true
          · subst c6
            have H1 : (if 0 ≤ x6_1 then (if x6_1 < (a0.size : Int) then (if (bt a0 x6_1) = 58 then (if 0 ≤ (wrap64 (x6_1 + 1)) then (if (wrap64 (x6_1 + 1)) < (a0.size : Int) then (if (bt a0 (wrap64 (x6_1 + 1))) = 58 then (gossamerref9_Parse.l0 kj3 a0 x6_1 (wrap64 (x6_1 + 1)) 0 0 0 0 0 0 0 0) else (gossamerref9_Parse.l0 kj3 a0 x5_1 (wrap64 (x6_1 + 1)) 0 0 0 0 0 0 0 0)) else (none)) else (none)) else (gossamerref9_Parse.l0 kj3 a0 x5_1 (wrap64 (x6_1 + 1)) 0 0 0 0 0 0 0 0)) else (none)) else (none)) = some (r1, r2, r3, r4, r5, r6, r7, r8, r9) := by rw [if_pos rfl] at H; exact H
            clear H
            have H := H1
            clear H1
            by_cases c7 : 0 ≤ x6_1
            · rw [if_pos c7] at H
              have c7b0 : decide (0 ≤ x6_1) = true := decide_eq_true c7
              clear c7
              by_cases c8 : x6_1 < (a0.size : Int)
              · rw [if_pos c8] at H
                have c8b0 : decide (x6_1 < (a0.size : Int)) = true := decide_eq_true c8
                clear c8
                by_cases c10 : (bt a0 x6_1) = 58
                · rw [if_pos c10] at H
                  have c10b0 : ((bt a0 x6_1) == 58) = true := beq_iff_eq.mpr c10
                  have c10b1 : ((bt a0 x6_1) != 58) = false := bne_eq_false_iff_eq.mpr c10
                  clear c10
                  obtain ⟨ji11, hji11⟩ : ∃ j_ : Int, (wrap64 (x6_1 + 1)) = j_ := ⟨_, rfl⟩
                  replace H : (if 0 ≤ (ji11) then (if (ji11) < (a0.size : Int) then (if (bt a0 (ji11)) = 58 then (gossamerref9_Parse.l0 kj3 a0 x6_1 ji11 0 0 0 0 0 0 0 0) else (gossamerref9_Parse.l0 kj3 a0 x5_1 ji11 0 0 0 0 0 0 0 0)) else (none)) else (none)) = some (r1, r2, r3, r4, r5, r6, r7, r8, r9) := by first | (rw [hji11] at H; exact H) | (simp only [hji11] at H ⊢; exact H)
                  have hji11w : (IntKind.i64.wrap (x6_1 + 1)) = ji11 := (i64_w _).trans hji11
                  by_cases c12 : 0 ≤ (ji11)
                  · rw [if_pos c12] at H
                    have c12b0 : decide (0 ≤ (ji11)) = true := decide_eq_true c12
                    clear c12
                    by_cases c13 : (ji11) < (a0.size : Int)
                    · rw [if_pos c13] at H
                      have c13b0 : decide ((ji11) < (a0.size : Int)) = true := decide_eq_true c13
                      clear c13
                      by_cases c15 : (bt a0 (ji11)) = 58
                      · rw [if_pos c15] at H
                        have c15b0 : ((bt a0 (ji11)) == 58) = true := beq_iff_eq.mpr c15
                        have c15b1 : ((bt a0 (ji11)) != 58) = false := bne_eq_false_iff_eq.mpr c15
                        clear c15
                        have H' := Aside0.mk H
                        clear H
                        have p9 : 0 ≤ (x6_1 : Int) := of_decide_eq_true (by first | (with_reducible assumption) | assumption)
                        have q9 : x6_1 < (a0.size : Int) := of_decide_eq_true (by first | (with_reducible assumption) | assumption)
                        have hx9 := bt_at a0 x6_1
                        replace p9 := eq_true p9
                        replace q9 := eq_true q9
                        have p14 : 0 ≤ ((ji11) : Int) := of_decide_eq_true (by first | (with_reducible assumption) | assumption)
                        have q14 : (ji11) < (a0.size : Int) := of_decide_eq_true (by first | (with_reducible assumption) | assumption)
                        have hx14 := bt_at a0 (ji11)
                        replace p14 := eq_true p14
                        replace q14 := eq_true q14
                        go_wp2
                        go_roundg kj3
                        case measure => have := HK1.out; have := HJ3.out; omega
                        case rel => exact ⟨(x6_1), (ji11), (by first | rfl | (simp; done) | (simp [*]; done)), (by first | rfl | (simp; done) | (simp only [← hji11] <;> (first | rfl | simp)) | (simp [*]; done)), H', ⟨by have := HK1.out; have := HJ3.out; omega⟩, ⟨by (with_reducible repeat (first | refine blk_drewN ?_ _ | refine blk_drew ?_ | refine blk_alloc ?_ _)); exact BK195.out⟩, ⟨by (with_reducible repeat (first | refine blk_drewN ?_ _ | refine blk_drew ?_ | refine blk_alloc ?_ _)); exact BK196.out⟩, ⟨by repeat (first | (with_reducible first | exact HB.out | apply below_alloc | apply pw_below_drewN | apply below_drew1 | refine below_set ?_ GE195.out | refine below_set ?_ GE196.out) | exact HB.out)⟩⟩
                      · rw [if_neg c15] at H
                        have c15b0 : ((bt a0 (ji11)) == 58) = false := beq_eq_false_iff_ne.mpr c15
                        have c15b1 : ((bt a0 (ji11)) != 58) = true := bne_iff_ne.mpr c15
                        have H' := Aside0.mk H
                        clear H
                        have p9 : 0 ≤ (x6_1 : Int) := of_decide_eq_true (by first | (with_reducible assumption) | assumption)
                        have q9 : x6_1 < (a0.size : Int) := of_decide_eq_true (by first | (with_reducible assumption) | assumption)
                        have hx9 := bt_at a0 x6_1
                        replace p9 := eq_true p9
                        replace q9 := eq_true q9
                        have p14 : 0 ≤ ((ji11) : Int) := of_decide_eq_true (by first | (with_reducible assumption) | assumption)
                        have q14 : (ji11) < (a0.size : Int) := of_decide_eq_true (by first | (with_reducible assumption) | assumption)
                        have hx14 := bt_at a0 (ji11)
                        replace p14 := eq_true p14
                        replace q14 := eq_true q14
                        go_wp2
                        go_roundg kj3
                        case measure => have := HK1.out; have := HJ3.out; omega
                        case rel => exact ⟨(x5_1), (ji11), (by first | rfl | (simp; done) | (simp [*]; done)), (by first | rfl | (simp; done) | (simp only [← hji11] <;> (first | rfl | simp)) | (simp [*]; done)), H', ⟨by have := HK1.out; have := HJ3.out; omega⟩, ⟨by (with_reducible repeat (first | refine blk_drewN ?_ _ | refine blk_drew ?_ | refine blk_alloc ?_ _)); exact BK195.out⟩, ⟨by (with_reducible repeat (first | refine blk_drewN ?_ _ | refine blk_drew ?_ | refine blk_alloc ?_ _)); exact BK196.out⟩, ⟨by repeat (first | (with_reducible first | exact HB.out | apply below_alloc | apply pw_below_drewN | apply below_drew1 | refine below_set ?_ GE195.out | refine below_set ?_ GE196.out) | exact HB.out)⟩⟩
                    · rw [if_neg c13] at H
                      exact absurd H (by simp)
                  · rw [if_neg c12] at H
                    exact absurd H (by simp)
                · rw [if_neg c10] at H
                  have c10b0 : ((bt a0 x6_1) == 58) = false := beq_eq_false_iff_ne.mpr c10
                  have c10b1 : ((bt a0 x6_1) != 58) = true := bne_iff_ne.mpr c10
                  have H' := Aside0.mk H
                  clear H
                  have p9 : 0 ≤ (x6_1 : Int) := of_decide_eq_true (by first | (with_reducible assumption) | assumption)
                  have q9 : x6_1 < (a0.size : Int) := of_decide_eq_true (by first | (with_reducible assumption) | assumption)
                  have hx9 := bt_at a0 x6_1
                  replace p9 := eq_true p9
                  replace q9 := eq_true q9
                  go_wp2
                  go_roundg kj3
                  case measure => have := HK1.out; have := HJ3.out; omega
                  case rel => exact ⟨(x5_1), (wrap64 (x6_1 + 1)), (by first | rfl | (simp; done) | (simp [*]; done)), (by first | rfl | (simp; done) | (simp [*]; done)), H', ⟨by have := HK1.out; have := HJ3.out; omega⟩, ⟨by (with_reducible repeat (first | refine blk_drewN ?_ _ | refine blk_drew ?_ | refine blk_alloc ?_ _)); exact BK195.out⟩, ⟨by (with_reducible repeat (first | refine blk_drewN ?_ _ | refine blk_drew ?_ | refine blk_alloc ?_ _)); exact BK196.out⟩, ⟨by repeat (first | (with_reducible first | exact HB.out | apply below_alloc | apply pw_below_drewN | apply below_drew1 | refine below_set ?_ GE195.out | refine below_set ?_ GE196.out) | exact HB.out)⟩⟩
              · rw [if_neg c8] at H
                exact absurd H (by simp)
            · rw [if_neg c7] at H
              exact absurd H (by simp)
          · replace c6 := Bool.eq_false_iff.mpr c6
            subst c6
            have H1 : (if x5_1 < 0 then ((gossamerref9_row.f kj3 a0 true).bind fun bt197 => (if bt197.2 = true then (gossamerref9_Parse.j2 kj3 bt197.1 ((bt197.1.length : Int) != 8) 0 0 0 0 0 0 0 0) else (gossamerref9_Parse.j2 kj3 bt197.1 true 0 0 0 0 0 0 0 0))) else (if 0 ≤ x5_1 then (if x5_1 ≤ (a0.size : Int) then ((gossamerref9_row.f kj3 (a0.extract 0 (x5_1 : Int).toNat) false).bind fun bt202 => (if 0 ≤ (wrap64 (x5_1 + 2)) then (if (wrap64 (x5_1 + 2)) ≤ (a0.size : Int) then ((gossamerref9_row.f kj3 (a0.extract ((wrap64 (x5_1 + 2)) : Int).toNat a0.size) true).bind fun bt206 => (if bt202.2 = true then (if bt206.2 = true then (gossamerref9_Parse.j4 kj3 bt202.1 bt206.1 (decide ((wrap64 ((bt202.1.length : Int) + (bt206.1.length : Int))) > 7)) 0 0 0 0 0 0 0 0) else (gossamerref9_Parse.j4 kj3 bt202.1 bt206.1 true 0 0 0 0 0 0 0 0)) else (gossamerref9_Parse.j4 kj3 bt202.1 bt206.1 true 0 0 0 0 0 0 0 0))) else (none)) else (none))) else (none)) else (none))) = some (r1, r2, r3, r4, r5, r6, r7, r8, r9) := by rw [if_neg (show ¬ (false = true) by decide)] at H; exact H
            clear H
            have H := H1
            clear H1
            by_cases c16 : x5_1 < 0
            · rw [if_pos c16] at H
              have c16b0 : decide (x5_1 < 0) = true := decide_eq_true c16
              clear c16
              replace H := Option.bind_eq_some_iff.mp H
              obtain ⟨⟨t197, t198⟩, A170, H⟩ := H
              replace H : (if t198 = true then (gossamerref9_Parse.j2 kj3 t197 ((t197.length : Int) != 8) 0 0 0 0 0 0 0 0) else (gossamerref9_Parse.j2 kj3 t197 true 0 0 0 0 0 0 0 0)) = some (r1, r2, r3, r4, r5, r6, r7, r8, r9) := H
              have A17 := Aside0.mk A170
              clear A170
              have HC18 := Aside0.mk H
              clear H
              go_upto_region 10 with (first | ((with_reducible refine gate_callee (f := 19) rfl ?_); refine goesL_ (some 43) rfl rfl Tryd.func19 (by kernel_rfl) rfl #[.string a0, .bool true] rfl (by (try simp only [List.map_toArray, List.map_cons, List.map_nil]); first | done | rfl | (simp only [List.length_drop, List.length_take]; rfl)) ?_; (with_reducible refine (gossamerref9_row.calls kj3 a0 true t197 t198 _ A17.out).mono ?_); rintro e w19 ⟨v199, rfl, ho0, hb⟩; refine ⟨_, rfl, ?_⟩; have n0_ := Aside0.mk (Kd.R_lower ho0 (below_size (by repeat (first | (with_reducible first | exact HB.out | apply below_alloc | apply pw_below_drewN | apply below_drew1 | refine below_set ?_ GE195.out | refine below_set ?_ GE196.out) | exact HB.out)))); have n1_ := Aside0.mk (blk_below (g := gb195) (o := .cells #[.int .u16 0, .int .u16 0, .int .u16 0, .int .u16 0, .int .u16 0, .int .u16 0, .int .u16 0, .int .u16 0] 24 (0, 0)) (by (with_reducible repeat (first | refine blk_drewN ?_ _ | refine blk_drew ?_ | refine blk_alloc ?_ _)); exact BK195.out) hb); have n2_ := Aside0.mk (blk_below (g := gb196) (o := .cells #[.int .u16 0, .int .u16 0, .int .u16 0, .int .u16 0, .int .u16 0, .int .u16 0, .int .u16 0, .int .u16 0] 24 (0, 0)) (by (with_reducible repeat (first | refine blk_drewN ?_ _ | refine blk_drew ?_ | refine blk_alloc ?_ _)); exact BK196.out) hb); have n3_ := Aside0.mk (below_step (by repeat (first | (with_reducible first | exact HB.out | apply below_alloc | apply pw_below_drewN | apply below_drew1 | refine below_set ?_ GE195.out | refine below_set ?_ GE196.out) | exact HB.out)) hb); clear BK195; clear BK196; clear HB; have HO200 := n0_; have BK195 := n1_; have BK196 := n2_; have HB := n3_; clear n0_ n1_ n2_ n3_; (try clear hb); (try clear hb2); (try clear hk); (try clear hi); (try clear ho0)))
              (try simp only [Act.put, List.setIfInBounds_toArray, List.set_cons_zero, List.set_cons_succ])
              go_cut [52] (fun v52 wc => ∃ (kq : Nat) (x52_17 : Bool), v52 = .bool x52_17 ∧ Aside0 (gossamerref9_Parse.j2 kq t197 x52_17 0 0 0 0 0 0 0 0 = some (r1, r2, r3, r4, r5, r6, r7, r8, r9)) ∧ Aside0 (kq ≤ kj3) ∧ Aside0 (Kd.R (Kd.int .i64) 3 wc w.heap.size (fun _ => True) v199 t197) ∧ Aside0 (wc.heap[gb195]? = some (.cells #[.int .u16 0, .int .u16 0, .int .u16 0, .int .u16 0, .int .u16 0, .int .u16 0, .int .u16 0, .int .u16 0] 24 (0, 0))) ∧ Aside0 (wc.heap[gb196]? = some (.cells #[.int .u16 0, .int .u16 0, .int .u16 0, .int .u16 0, .int .u16 0, .int .u16 0, .int .u16 0, .int .u16 0] 24 (0, 0))) ∧ Aside0 (Below w.heap.size w wc))
              case first =>
                have H := HC18.out
                clear HC18
                by_cases c20 : t198 = true
                · subst c20
                  have H1 : (gossamerref9_Parse.j2 kj3 t197 ((t197.length : Int) != 8) 0 0 0 0 0 0 0 0) = some (r1, r2, r3, r4, r5, r6, r7, r8, r9) := by rw [if_pos rfl] at H; exact H
                  clear H
                  have H := H1
                  clear H1
                  have H' := Aside0.mk H
                  clear H
                  obtain ⟨Ao21, co21, eo21⟩ := Kd.R_slice HO200.out
                  subst eo21
                  go_wp2
                  go_meet
                  case rel => exact ⟨_, (((t197.length : Int) != 8)), (by first | rfl | (simp; done) | (simp [*]; done)), H', ⟨by have := HK1.out; have := HJ3.out; first | omega | exact Nat.le_refl _⟩, ⟨by (with_reducible repeat (first | apply Kd.R_alloc | apply Kd.R_drewN | apply Kd.R_drew)); exact HO200.out⟩, ⟨by (with_reducible repeat (first | refine blk_drewN ?_ _ | refine blk_drew ?_ | refine blk_alloc ?_ _)); exact BK195.out⟩, ⟨by (with_reducible repeat (first | refine blk_drewN ?_ _ | refine blk_drew ?_ | refine blk_alloc ?_ _)); exact BK196.out⟩, ⟨by repeat (first | (with_reducible first | exact HB.out | apply below_alloc | apply pw_below_drewN | apply below_drew1 | refine below_set ?_ GE195.out | refine below_set ?_ GE196.out) | exact HB.out)⟩⟩
                · replace c20 := Bool.eq_false_iff.mpr c20
                  subst c20
                  have H1 : (gossamerref9_Parse.j2 kj3 t197 true 0 0 0 0 0 0 0 0) = some (r1, r2, r3, r4, r5, r6, r7, r8, r9) := by rw [if_neg (show ¬ (false = true) by decide)] at H; exact H
                  clear H
                  have H := H1
                  clear H1
                  have H' := Aside0.mk H
                  clear H
                  go_wp2
                  go_meet
                  case rel => exact ⟨_, (true), (by first | rfl | (simp; done) | (simp [*]; done)), H', ⟨by have := HK1.out; have := HJ3.out; first | omega | exact Nat.le_refl _⟩, ⟨by (with_reducible repeat (first | apply Kd.R_alloc | apply Kd.R_drewN | apply Kd.R_drew)); exact HO200.out⟩, ⟨by (with_reducible repeat (first | refine blk_drewN ?_ _ | refine blk_drew ?_ | refine blk_alloc ?_ _)); exact BK195.out⟩, ⟨by (with_reducible repeat (first | refine blk_drewN ?_ _ | refine blk_drew ?_ | refine blk_alloc ?_ _)); exact BK196.out⟩, ⟨by repeat (first | (with_reducible first | exact HB.out | apply below_alloc | apply pw_below_drewN | apply below_drew1 | refine below_set ?_ GE195.out | refine below_set ?_ GE196.out) | exact HB.out)⟩⟩
              case rest =>
                clear HC18
                try clear c1
                try clear p1
                try clear q1
                try clear hx1
                try clear c2
                try clear p2
                try clear c5
                try clear c5b0
                try clear c6
                try clear p6
                try clear c7
                try clear c7b0
                try clear c8
                try clear c8b0
                try clear c9
                try clear p9
                try clear q9
                try clear hx9
                try clear c10
                try clear c10b0
                try clear c10b1
                try clear c12
                try clear c12b0
                try clear c13
                try clear c13b0
                try clear p14
                try clear q14
                try clear hx14
                try clear c15
                try clear c15b0
                try clear c15b1
                try clear c16
                try clear c16b0
                try clear c19
                try clear c20
                try clear p14
                try clear p2
                try clear p9
                try clear q14
                try clear q9
                obtain ⟨kq, x52_17, rfl, HA, HJ17, HO_7, BK195, BK196, HB⟩ := hcut
                cases kq with
                | zero => exact absurd HA.out (by simp [gossamerref9_Parse.j2])
                | succ kj17 =>
                  have H := HA.out
                  clear HA
                  simp only [gossamerref9_Parse.j2] at H
                  by_cases c22 : x52_17 = true
                  · subst c22
                    have H1 : (some (0, 0, 0, 0, 0, 0, 0, 0, false)) = some (r1, r2, r3, r4, r5, r6, r7, r8, r9) := by rw [if_pos rfl] at H; exact H
                    clear H
                    have H := H1
                    clear H1
                    simp only [Option.some.injEq, Prod.mk.injEq] at H
                    obtain ⟨rfl, rfl, rfl, rfl, rfl, rfl, rfl, rfl, rfl⟩ := H
                    have hnb23 := NB196_195.out
                    have hnc23 := NB195_196.out
                    have hcz24_0 : wc.cell? ⟨gb196, 0, none⟩ = some (.int .u16 0) := (blk_cell BK196.out 0).trans rfl
                    have hcz24_1 : wc.cell? ⟨gb196, 1, none⟩ = some (.int .u16 0) := (blk_cell BK196.out 1).trans rfl
                    have hcz24_2 : wc.cell? ⟨gb196, 2, none⟩ = some (.int .u16 0) := (blk_cell BK196.out 2).trans rfl
                    have hcz24_3 : wc.cell? ⟨gb196, 3, none⟩ = some (.int .u16 0) := (blk_cell BK196.out 3).trans rfl
                    have hcz24_4 : wc.cell? ⟨gb196, 4, none⟩ = some (.int .u16 0) := (blk_cell BK196.out 4).trans rfl
                    have hcz24_5 : wc.cell? ⟨gb196, 5, none⟩ = some (.int .u16 0) := (blk_cell BK196.out 5).trans rfl
                    have hcz24_6 : wc.cell? ⟨gb196, 6, none⟩ = some (.int .u16 0) := (blk_cell BK196.out 6).trans rfl
                    have hcz24_7 : wc.cell? ⟨gb196, 7, none⟩ = some (.int .u16 0) := (blk_cell BK196.out 7).trans rfl
                    have hfz24_0 := blk_frozen BK196.out 0
                    have hfz24_1 := blk_frozen BK196.out 1
                    have hfz24_2 := blk_frozen BK196.out 2
                    have hfz24_3 := blk_frozen BK196.out 3
                    have hfz24_4 := blk_frozen BK196.out 4
                    have hfz24_5 := blk_frozen BK196.out 5
                    have hfz24_6 := blk_frozen BK196.out 6
                    have hfz24_7 := blk_frozen BK196.out 7
                    have hcz25_0 : wc.cell? ⟨gb195, 0, none⟩ = some (.int .u16 0) := (blk_cell BK195.out 0).trans rfl
                    have hcz25_1 : wc.cell? ⟨gb195, 1, none⟩ = some (.int .u16 0) := (blk_cell BK195.out 1).trans rfl
                    have hcz25_2 : wc.cell? ⟨gb195, 2, none⟩ = some (.int .u16 0) := (blk_cell BK195.out 2).trans rfl
                    have hcz25_3 : wc.cell? ⟨gb195, 3, none⟩ = some (.int .u16 0) := (blk_cell BK195.out 3).trans rfl
                    have hcz25_4 : wc.cell? ⟨gb195, 4, none⟩ = some (.int .u16 0) := (blk_cell BK195.out 4).trans rfl
                    have hcz25_5 : wc.cell? ⟨gb195, 5, none⟩ = some (.int .u16 0) := (blk_cell BK195.out 5).trans rfl
                    have hcz25_6 : wc.cell? ⟨gb195, 6, none⟩ = some (.int .u16 0) := (blk_cell BK195.out 6).trans rfl
                    have hcz25_7 : wc.cell? ⟨gb195, 7, none⟩ = some (.int .u16 0) := (blk_cell BK195.out 7).trans rfl
                    have hfz25_0 := blk_frozen BK195.out 0
                    have hfz25_1 := blk_frozen BK195.out 1
                    have hfz25_2 := blk_frozen BK195.out 2
                    have hfz25_3 := blk_frozen BK195.out 3
                    have hfz25_4 := blk_frozen BK195.out 4
                    have hfz25_5 := blk_frozen BK195.out 5
                    have hfz25_6 := blk_frozen BK195.out 6
                    have hfz25_7 := blk_frozen BK195.out 7
                    go_wp2
                    refine bodyPost_ret (results_ct rfl _ _ gb195 24 #[.int .u16 0, .int .u16 0, .int .u16 0, .int .u16 0, .int .u16 0, .int .u16 0, .int .u16 0, .int .u16 0] (0, 0) _ rfl (by (with_reducible repeat (first | refine blk_drewN ?_ _ | refine blk_drew ?_ | refine blk_alloc ?_ _)); refine blk_put (cs := #[.int .u16 0, .int .u16 0, .int .u16 0, .int .u16 0, .int .u16 0, .int .u16 0, .int .u16 0, .int .u16 0]) ?_ 7 _ rfl; (with_reducible repeat (first | refine blk_drewN ?_ _ | refine blk_drew ?_ | refine blk_alloc ?_ _)); refine blk_put (cs := #[.int .u16 0, .int .u16 0, .int .u16 0, .int .u16 0, .int .u16 0, .int .u16 0, .int .u16 0, .int .u16 0]) ?_ 6 _ rfl; (with_reducible repeat (first | refine blk_drewN ?_ _ | refine blk_drew ?_ | refine blk_alloc ?_ _)); refine blk_put (cs := #[.int .u16 0, .int .u16 0, .int .u16 0, .int .u16 0, .int .u16 0, .int .u16 0, .int .u16 0, .int .u16 0]) ?_ 5 _ rfl; (with_reducible repeat (first | refine blk_drewN ?_ _ | refine blk_drew ?_ | refine blk_alloc ?_ _)); refine blk_put (cs := #[.int .u16 0, .int .u16 0, .int .u16 0, .int .u16 0, .int .u16 0, .int .u16 0, .int .u16 0, .int .u16 0]) ?_ 4 _ rfl; (with_reducible repeat (first | refine blk_drewN ?_ _ | refine blk_drew ?_ | refine blk_alloc ?_ _)); refine blk_put (cs := #[.int .u16 0, .int .u16 0, .int .u16 0, .int .u16 0, .int .u16 0, .int .u16 0, .int .u16 0, .int .u16 0]) ?_ 3 _ rfl; (with_reducible repeat (first | refine blk_drewN ?_ _ | refine blk_drew ?_ | refine blk_alloc ?_ _)); refine blk_put (cs := #[.int .u16 0, .int .u16 0, .int .u16 0, .int .u16 0, .int .u16 0, .int .u16 0, .int .u16 0, .int .u16 0]) ?_ 2 _ rfl; (with_reducible repeat (first | refine blk_drewN ?_ _ | refine blk_drew ?_ | refine blk_alloc ?_ _)); refine blk_put (cs := #[.int .u16 0, .int .u16 0, .int .u16 0, .int .u16 0, .int .u16 0, .int .u16 0, .int .u16 0, .int .u16 0]) ?_ 1 _ rfl; (with_reducible repeat (first | refine blk_drewN ?_ _ | refine blk_drew ?_ | refine blk_alloc ?_ _)); refine blk_put (cs := #[.int .u16 0, .int .u16 0, .int .u16 0, .int .u16 0, .int .u16 0, .int .u16 0, .int .u16 0, .int .u16 0]) ?_ 0 _ rfl; (with_reducible repeat (first | refine blk_drewN ?_ _ | refine blk_drew ?_ | refine blk_alloc ?_ _)); exact BK195.out) Tryd.underlying24 rfl (by kernel_rfl)) rfl ?_
                    exact ⟨by first | rfl | (simp [errW_none, errW_some] <;> rfl) | (simp [*, errW_none, errW_some] <;> rfl), by repeat (first | (with_reducible first | exact HB.out | apply below_alloc | apply pw_below_drewN | apply below_drew1 | refine below_set ?_ GE195.out | refine below_set ?_ GE196.out) | exact HB.out)⟩
                  · replace c22 := Bool.eq_false_iff.mpr c22
                    subst c22
                    have H1 : (gossamerref9_Parse.l1 kj17 t197 0 0 0 0 0 0 0 0 0) = some (r1, r2, r3, r4, r5, r6, r7, r8, r9) := by rw [if_neg (show ¬ (false = true) by decide)] at H; exact H
                    clear H
                    have H := H1
                    clear H1
                    have H' := Aside0.mk H
                    clear H
                    go_wp2
                    go_loopg [9] kj17 (fun kq v9 w' => ∃ (x9_4 : Int) (x197000_4 : Int) (x197001_4 : Int) (x197002_4 : Int) (x197003_4 : Int) (x197004_4 : Int) (x197005_4 : Int) (x197006_4 : Int) (x197007_4 : Int), v9 = .int .i64 x9_4 ∧ Aside0 (gossamerref9_Parse.l1 kq t197 x9_4 x197000_4 x197001_4 x197002_4 x197003_4 x197004_4 x197005_4 x197006_4 x197007_4 = some (r1, r2, r3, r4, r5, r6, r7, r8, r9)) ∧ Aside0 (kq ≤ kj17) ∧ Aside0 (Kd.R (Kd.int .i64) 3 w' w.heap.size (fun _ => True) v199 t197) ∧ Aside0 (w'.heap[gb195]? = some (.cells #[.int .u16 0, .int .u16 0, .int .u16 0, .int .u16 0, .int .u16 0, .int .u16 0, .int .u16 0, .int .u16 0] 24 (0, 0))) ∧ Aside0 (w'.heap[gb196]? = some (.cells #[.int .u16 x197000_4, .int .u16 x197001_4, .int .u16 x197002_4, .int .u16 x197003_4, .int .u16 x197004_4, .int .u16 x197005_4, .int .u16 x197006_4, .int .u16 x197007_4] 24 (0, 0))) ∧ Aside0 (Below w.heap.size w w'))
                    case atStart => exact ⟨(0), (0), (0), (0), (0), (0), (0), (0), (0), (by first | rfl | (simp; done) | (simp [*]; done)), H', ⟨Nat.le_refl _⟩, ⟨by (with_reducible repeat (first | apply Kd.R_alloc | apply Kd.R_drewN | apply Kd.R_drew)); exact HO_7.out⟩, ⟨by (with_reducible repeat (first | refine blk_drewN ?_ _ | refine blk_drew ?_ | refine blk_alloc ?_ _)); exact BK195.out⟩, ⟨by (with_reducible repeat (first | refine blk_drewN ?_ _ | refine blk_drew ?_ | refine blk_alloc ?_ _)); exact BK196.out⟩, ⟨by repeat (first | (with_reducible first | exact HB.out | apply below_alloc | apply pw_below_drewN | apply below_drew1 | refine below_set ?_ GE195.out | refine below_set ?_ GE196.out) | exact HB.out)⟩⟩
                    case round =>
                      clear H'
                      try clear c1
                      try clear p1
                      try clear q1
                      try clear hx1
                      try clear c2
                      try clear p2
                      try clear c5
                      try clear c5b0
                      try clear c6
                      try clear p6
                      try clear c7
                      try clear c7b0
                      try clear c8
                      try clear c8b0
                      try clear c9
                      try clear p9
                      try clear q9
                      try clear hx9
                      try clear c10
                      try clear c10b0
                      try clear c10b1
                      try clear c12
                      try clear c12b0
                      try clear c13
                      try clear c13b0
                      try clear p14
                      try clear q14
                      try clear hx14
                      try clear c15
                      try clear c15b0
                      try clear c15b1
                      try clear c16
                      try clear c16b0
                      try clear c19
                      try clear c20
                      try clear c22
                      try clear c23
                      try clear hcz24_0
                      try clear hcz24_1
                      try clear hcz24_2
                      try clear hcz24_3
                      try clear hcz24_4
                      try clear hcz24_5
                      try clear hcz24_6
                      try clear hcz24_7
                      try clear hcz25_0
                      try clear hcz25_1
                      try clear hcz25_2
                      try clear hcz25_3
                      try clear hcz25_4
                      try clear hcz25_5
                      try clear hcz25_6
                      try clear hcz25_7
                      try clear hfz24_0
                      try clear hfz24_1
                      try clear hfz24_2
                      try clear hfz24_3
                      try clear hfz24_4
                      try clear hfz24_5
                      try clear hfz24_6
                      try clear hfz24_7
                      try clear hfz25_0
                      try clear hfz25_1
                      try clear hfz25_2
                      try clear hfz25_3
                      try clear hfz25_4
                      try clear hfz25_5
                      try clear hfz25_6
                      try clear hfz25_7
                      try clear p1
                      try clear p14
                      try clear p2
                      try clear p6
                      try clear p9
                      try clear q1
                      try clear q14
                      try clear q9
                      obtain ⟨x9_4, x197000_4, x197001_4, x197002_4, x197003_4, x197004_4, x197005_4, x197006_4, x197007_4, rfl, HA, HK4, HO_7, BK195, BK196, HB⟩ := hrel
                      cases gk with
                      | zero => exact absurd HA.out (by simp [gossamerref9_Parse.l1])
                      | succ k4 =>
                        have H := HA.out
                        clear HA
                        simp only [gossamerref9_Parse.l1] at H
                        by_cases c26 : x9_4 < 8
                        · rw [if_pos c26] at H
                          have c26b0 : decide (x9_4 < 8) = true := decide_eq_true c26
                          clear c26
                          by_cases c27 : 0 ≤ x9_4
                          · rw [if_pos c27] at H
                            have c27b0 : decide (0 ≤ x9_4) = true := decide_eq_true c27
                            clear c27
                            by_cases c28 : x9_4 < (t197.length : Int)
                            · rw [if_pos c28] at H
                              have c28b0 : decide (x9_4 < (t197.length : Int)) = true := decide_eq_true c28
                              clear c28
                              have H' := Aside0.mk H
                              clear H
                              obtain ⟨Ao31, co31, eo31⟩ := Kd.R_slice HO_7.out
                              subst eo31
                              have p201 : 0 ≤ (x9_4 : Int) := of_decide_eq_true (by first | (with_reducible assumption) | assumption)
                              have q201 : x9_4 < (t197.length : Int) := of_decide_eq_true (by first | (with_reducible assumption) | assumption)
                              obtain ⟨ad201, e201, hx201_0⟩ := Kd.at_int (Kd.R_reads' HO_7.out).2.2 x9_4 p201 q201
                              cases e201
                              replace p201 := eq_true p201
                              replace q201 := eq_true q201
                              have p29 : 0 ≤ (x9_4 : Int) := of_decide_eq_true (by first | (with_reducible assumption) | assumption)
                              have q29 : (x9_4 : Int) < (8 : Int) := of_decide_eq_true (by first | (with_reducible assumption) | assumption)
                              replace p29 := eq_true p29
                              replace q29 := eq_true q29
                              have p30 : 0 ≤ (x9_4 : Int) := of_decide_eq_true (by first | (with_reducible assumption) | assumption)
                              have q30 : (x9_4 : Int) < (8 : Int) := of_decide_eq_true (by first | (with_reducible assumption) | assumption)
                              replace p30 := eq_true p30
                              replace q30 := eq_true q30
                              have hnb32 := NB196_195.out
                              have hnc32 := NB195_196.out
                              have hcz33_0 : wr.cell? ⟨gb196, 0, none⟩ = some (.int .u16 x197000_4) := (blk_cell BK196.out 0).trans rfl
                              have hcz33_1 : wr.cell? ⟨gb196, 1, none⟩ = some (.int .u16 x197001_4) := (blk_cell BK196.out 1).trans rfl
                              have hcz33_2 : wr.cell? ⟨gb196, 2, none⟩ = some (.int .u16 x197002_4) := (blk_cell BK196.out 2).trans rfl
                              have hcz33_3 : wr.cell? ⟨gb196, 3, none⟩ = some (.int .u16 x197003_4) := (blk_cell BK196.out 3).trans rfl
                              have hcz33_4 : wr.cell? ⟨gb196, 4, none⟩ = some (.int .u16 x197004_4) := (blk_cell BK196.out 4).trans rfl
                              have hcz33_5 : wr.cell? ⟨gb196, 5, none⟩ = some (.int .u16 x197005_4) := (blk_cell BK196.out 5).trans rfl
                              have hcz33_6 : wr.cell? ⟨gb196, 6, none⟩ = some (.int .u16 x197006_4) := (blk_cell BK196.out 6).trans rfl
                              have hcz33_7 : wr.cell? ⟨gb196, 7, none⟩ = some (.int .u16 x197007_4) := (blk_cell BK196.out 7).trans rfl
                              have hfz33_0 := blk_frozen BK196.out 0
                              have hfz33_1 := blk_frozen BK196.out 1
                              have hfz33_2 := blk_frozen BK196.out 2
                              have hfz33_3 := blk_frozen BK196.out 3
                              have hfz33_4 := blk_frozen BK196.out 4
                              have hfz33_5 := blk_frozen BK196.out 5
                              have hfz33_6 := blk_frozen BK196.out 6
                              have hfz33_7 := blk_frozen BK196.out 7
                              have hx30 : wr.cell? ⟨gb196, (x9_4 : Int).toNat, none⟩ = some (.int .u16 (rd ([x197000_4, x197001_4, x197002_4, x197003_4, x197004_4, x197005_4, x197006_4, x197007_4] : List Int) x9_4)) := arr_cell (Value.int .u16) 0 (xs := ([x197000_4, x197001_4, x197002_4, x197003_4, x197004_4, x197005_4, x197006_4, x197007_4] : List Int)) BK196.out (x9_4) (of_eq_true p30) (of_eq_true q30)
                              have hf30 := blk_frozen BK196.out (x9_4 : Int).toNat
                              go_wp2
                              go_roundg k4
                              case measure => have := HK1.out; have := HJ3.out; have := HJ17.out; have := HK4.out; omega
                              case rel => exact ⟨(wrap64 (x9_4 + 1)), ((if x9_4 = 0 then IntKind.u16.wrap (rd t197 x9_4) else x197000_4)), ((if x9_4 = 1 then IntKind.u16.wrap (rd t197 x9_4) else x197001_4)), ((if x9_4 = 2 then IntKind.u16.wrap (rd t197 x9_4) else x197002_4)), ((if x9_4 = 3 then IntKind.u16.wrap (rd t197 x9_4) else x197003_4)), ((if x9_4 = 4 then IntKind.u16.wrap (rd t197 x9_4) else x197004_4)), ((if x9_4 = 5 then IntKind.u16.wrap (rd t197 x9_4) else x197005_4)), ((if x9_4 = 6 then IntKind.u16.wrap (rd t197 x9_4) else x197006_4)), ((if x9_4 = 7 then IntKind.u16.wrap (rd t197 x9_4) else x197007_4)), (by first | rfl | (simp; done) | (simp [*]; done)), H', ⟨by have := HK1.out; have := HJ3.out; have := HJ17.out; have := HK4.out; omega⟩, ⟨by (with_reducible repeat (first | apply Kd.R_alloc | apply Kd.R_drewN | apply Kd.R_drew)); exact Kd.R_mono (Kd.R_far (p := ⟨gb196, (x9_4 : Int).toNat, none⟩) (Kd.R_types HO_7.out BK196.out (by decide)) (fun _ hk => hk.2) (.int .u16 (IntKind.u16.wrap (rd t197 x9_4)))) (fun _ hk => trivial)⟩, ⟨by (with_reducible repeat (first | refine blk_drewN ?_ _ | refine blk_drew ?_ | refine blk_alloc ?_ _)); refine blk_far ?_ NB195_196.out _; (with_reducible repeat (first | refine blk_drewN ?_ _ | refine blk_drew ?_ | refine blk_alloc ?_ _)); exact BK195.out⟩, ⟨by (with_reducible repeat (first | refine blk_drewN ?_ _ | refine blk_drew ?_ | refine blk_alloc ?_ _)); refine blk_put (cs := #[.int .u16 x197000_4, .int .u16 x197001_4, .int .u16 x197002_4, .int .u16 x197003_4, .int .u16 x197004_4, .int .u16 x197005_4, .int .u16 x197006_4, .int .u16 x197007_4]) ?_ ((x9_4 : Int).toNat) _ (arr_set (Value.int .u16) ([x197000_4, x197001_4, x197002_4, x197003_4, x197004_4, x197005_4, x197006_4, x197007_4] : List Int) (x9_4) (of_eq_true p30) (IntKind.u16.wrap (rd t197 x9_4))); (with_reducible repeat (first | refine blk_drewN ?_ _ | refine blk_drew ?_ | refine blk_alloc ?_ _)); exact BK196.out⟩, ⟨by repeat (first | (with_reducible first | exact HB.out | apply below_alloc | apply pw_below_drewN | apply below_drew1 | refine below_set ?_ GE195.out | refine below_set ?_ GE196.out) | exact HB.out)⟩⟩
                            · rw [if_neg c28] at H
                              exact absurd H (by simp)
                          · rw [if_neg c27] at H
                            exact absurd H (by simp)
                        · rw [if_neg c26] at H
                          have c26b0 : decide (x9_4 < 8) = false := decide_eq_false c26
                          clear c26
                          simp only [Option.some.injEq, Prod.mk.injEq] at H
                          obtain ⟨rfl, rfl, rfl, rfl, rfl, rfl, rfl, rfl, rfl⟩ := H
                          have hnb34 := NB196_195.out
                          have hnc34 := NB195_196.out
                          have hcz35_0 : wr.cell? ⟨gb196, 0, none⟩ = some (.int .u16 x197000_4) := (blk_cell BK196.out 0).trans rfl
                          have hcz35_1 : wr.cell? ⟨gb196, 1, none⟩ = some (.int .u16 x197001_4) := (blk_cell BK196.out 1).trans rfl
                          have hcz35_2 : wr.cell? ⟨gb196, 2, none⟩ = some (.int .u16 x197002_4) := (blk_cell BK196.out 2).trans rfl
                          have hcz35_3 : wr.cell? ⟨gb196, 3, none⟩ = some (.int .u16 x197003_4) := (blk_cell BK196.out 3).trans rfl
                          have hcz35_4 : wr.cell? ⟨gb196, 4, none⟩ = some (.int .u16 x197004_4) := (blk_cell BK196.out 4).trans rfl
                          have hcz35_5 : wr.cell? ⟨gb196, 5, none⟩ = some (.int .u16 x197005_4) := (blk_cell BK196.out 5).trans rfl
                          have hcz35_6 : wr.cell? ⟨gb196, 6, none⟩ = some (.int .u16 x197006_4) := (blk_cell BK196.out 6).trans rfl
                          have hcz35_7 : wr.cell? ⟨gb196, 7, none⟩ = some (.int .u16 x197007_4) := (blk_cell BK196.out 7).trans rfl
                          have hfz35_0 := blk_frozen BK196.out 0
                          have hfz35_1 := blk_frozen BK196.out 1
                          have hfz35_2 := blk_frozen BK196.out 2
                          have hfz35_3 := blk_frozen BK196.out 3
                          have hfz35_4 := blk_frozen BK196.out 4
                          have hfz35_5 := blk_frozen BK196.out 5
                          have hfz35_6 := blk_frozen BK196.out 6
                          have hfz35_7 := blk_frozen BK196.out 7
                          have hcz36_0 : wr.cell? ⟨gb195, 0, none⟩ = some (.int .u16 0) := (blk_cell BK195.out 0).trans rfl
                          have hcz36_1 : wr.cell? ⟨gb195, 1, none⟩ = some (.int .u16 0) := (blk_cell BK195.out 1).trans rfl
                          have hcz36_2 : wr.cell? ⟨gb195, 2, none⟩ = some (.int .u16 0) := (blk_cell BK195.out 2).trans rfl
                          have hcz36_3 : wr.cell? ⟨gb195, 3, none⟩ = some (.int .u16 0) := (blk_cell BK195.out 3).trans rfl
                          have hcz36_4 : wr.cell? ⟨gb195, 4, none⟩ = some (.int .u16 0) := (blk_cell BK195.out 4).trans rfl
                          have hcz36_5 : wr.cell? ⟨gb195, 5, none⟩ = some (.int .u16 0) := (blk_cell BK195.out 5).trans rfl
                          have hcz36_6 : wr.cell? ⟨gb195, 6, none⟩ = some (.int .u16 0) := (blk_cell BK195.out 6).trans rfl
                          have hcz36_7 : wr.cell? ⟨gb195, 7, none⟩ = some (.int .u16 0) := (blk_cell BK195.out 7).trans rfl
                          have hfz36_0 := blk_frozen BK195.out 0
                          have hfz36_1 := blk_frozen BK195.out 1
                          have hfz36_2 := blk_frozen BK195.out 2
                          have hfz36_3 := blk_frozen BK195.out 3
                          have hfz36_4 := blk_frozen BK195.out 4
                          have hfz36_5 := blk_frozen BK195.out 5
                          have hfz36_6 := blk_frozen BK195.out 6
                          have hfz36_7 := blk_frozen BK195.out 7
                          go_wp2
                          refine bodyPost_ret (results_ct rfl _ _ gb195 24 #[.int .u16 x197000_4, .int .u16 x197001_4, .int .u16 x197002_4, .int .u16 x197003_4, .int .u16 x197004_4, .int .u16 x197005_4, .int .u16 x197006_4, .int .u16 x197007_4] (0, 0) _ rfl (by (with_reducible repeat (first | refine blk_drewN ?_ _ | refine blk_drew ?_ | refine blk_alloc ?_ _)); refine blk_put (cs := #[.int .u16 x197000_4, .int .u16 x197001_4, .int .u16 x197002_4, .int .u16 x197003_4, .int .u16 x197004_4, .int .u16 x197005_4, .int .u16 x197006_4, .int .u16 0]) ?_ 7 _ rfl; (with_reducible repeat (first | refine blk_drewN ?_ _ | refine blk_drew ?_ | refine blk_alloc ?_ _)); refine blk_put (cs := #[.int .u16 x197000_4, .int .u16 x197001_4, .int .u16 x197002_4, .int .u16 x197003_4, .int .u16 x197004_4, .int .u16 x197005_4, .int .u16 0, .int .u16 0]) ?_ 6 _ rfl; (with_reducible repeat (first | refine blk_drewN ?_ _ | refine blk_drew ?_ | refine blk_alloc ?_ _)); refine blk_put (cs := #[.int .u16 x197000_4, .int .u16 x197001_4, .int .u16 x197002_4, .int .u16 x197003_4, .int .u16 x197004_4, .int .u16 0, .int .u16 0, .int .u16 0]) ?_ 5 _ rfl; (with_reducible repeat (first | refine blk_drewN ?_ _ | refine blk_drew ?_ | refine blk_alloc ?_ _)); refine blk_put (cs := #[.int .u16 x197000_4, .int .u16 x197001_4, .int .u16 x197002_4, .int .u16 x197003_4, .int .u16 0, .int .u16 0, .int .u16 0, .int .u16 0]) ?_ 4 _ rfl; (with_reducible repeat (first | refine blk_drewN ?_ _ | refine blk_drew ?_ | refine blk_alloc ?_ _)); refine blk_put (cs := #[.int .u16 x197000_4, .int .u16 x197001_4, .int .u16 x197002_4, .int .u16 0, .int .u16 0, .int .u16 0, .int .u16 0, .int .u16 0]) ?_ 3 _ rfl; (with_reducible repeat (first | refine blk_drewN ?_ _ | refine blk_drew ?_ | refine blk_alloc ?_ _)); refine blk_put (cs := #[.int .u16 x197000_4, .int .u16 x197001_4, .int .u16 0, .int .u16 0, .int .u16 0, .int .u16 0, .int .u16 0, .int .u16 0]) ?_ 2 _ rfl; (with_reducible repeat (first | refine blk_drewN ?_ _ | refine blk_drew ?_ | refine blk_alloc ?_ _)); refine blk_put (cs := #[.int .u16 x197000_4, .int .u16 0, .int .u16 0, .int .u16 0, .int .u16 0, .int .u16 0, .int .u16 0, .int .u16 0]) ?_ 1 _ rfl; (with_reducible repeat (first | refine blk_drewN ?_ _ | refine blk_drew ?_ | refine blk_alloc ?_ _)); refine blk_put (cs := #[.int .u16 0, .int .u16 0, .int .u16 0, .int .u16 0, .int .u16 0, .int .u16 0, .int .u16 0, .int .u16 0]) ?_ 0 _ rfl; (with_reducible repeat (first | refine blk_drewN ?_ _ | refine blk_drew ?_ | refine blk_alloc ?_ _)); exact BK195.out) Tryd.underlying24 rfl (by kernel_rfl)) rfl ?_
                          exact ⟨by first | rfl | (simp [errW_none, errW_some] <;> rfl) | (simp [*, errW_none, errW_some] <;> rfl), by repeat (first | (with_reducible first | exact HB.out | apply below_alloc | apply pw_below_drewN | apply below_drew1 | refine below_set ?_ GE195.out | refine below_set ?_ GE196.out) | exact HB.out)⟩
            · rw [if_neg c16] at H
              have c16b0 : decide (x5_1 < 0) = false := decide_eq_false c16
              clear c16
              by_cases c37 : 0 ≤ x5_1
              · rw [if_pos c37] at H
                have c37b0 := eq_true c37
                have c37b1 : decide (0 ≤ x5_1) = true := decide_eq_true c37
                clear c37
                by_cases c38 : x5_1 ≤ (a0.size : Int)
                · rw [if_pos c38] at H
                  have c38b0 := eq_true c38
                  have c38b1 : decide (x5_1 ≤ (a0.size : Int)) = true := decide_eq_true c38
                  clear c38
                  replace H := Option.bind_eq_some_iff.mp H
                  obtain ⟨⟨t202, t203⟩, A390, H⟩ := H
                  replace H : (if 0 ≤ (wrap64 (x5_1 + 2)) then (if (wrap64 (x5_1 + 2)) ≤ (a0.size : Int) then ((gossamerref9_row.f kj3 (a0.extract ((wrap64 (x5_1 + 2)) : Int).toNat a0.size) true).bind fun bt206 => (if t203 = true then (if bt206.2 = true then (gossamerref9_Parse.j4 kj3 t202 bt206.1 (decide ((wrap64 ((t202.length : Int) + (bt206.1.length : Int))) > 7)) 0 0 0 0 0 0 0 0) else (gossamerref9_Parse.j4 kj3 t202 bt206.1 true 0 0 0 0 0 0 0 0)) else (gossamerref9_Parse.j4 kj3 t202 bt206.1 true 0 0 0 0 0 0 0 0))) else (none)) else (none)) = some (r1, r2, r3, r4, r5, r6, r7, r8, r9) := H
                  have A39 := Aside0.mk A390
                  clear A390
                  obtain ⟨ji40, hji40⟩ : ∃ j_ : Int, (wrap64 (x5_1 + 2)) = j_ := ⟨_, rfl⟩
                  replace H : (if 0 ≤ (ji40) then (if (ji40) ≤ (a0.size : Int) then ((gossamerref9_row.f kj3 (a0.extract ((ji40) : Int).toNat a0.size) true).bind fun bt206 => (if t203 = true then (if bt206.2 = true then (gossamerref9_Parse.j4 kj3 t202 bt206.1 (decide ((wrap64 ((t202.length : Int) + (bt206.1.length : Int))) > 7)) 0 0 0 0 0 0 0 0) else (gossamerref9_Parse.j4 kj3 t202 bt206.1 true 0 0 0 0 0 0 0 0)) else (gossamerref9_Parse.j4 kj3 t202 bt206.1 true 0 0 0 0 0 0 0 0))) else (none)) else (none)) = some (r1, r2, r3, r4, r5, r6, r7, r8, r9) := by first | (rw [hji40] at H; exact H) | (simp only [hji40] at H ⊢; exact H)
                  (try rw [hji40] at A39)
                  have hji40w : (IntKind.i64.wrap (x5_1 + 2)) = ji40 := (i64_w _).trans hji40
                  by_cases c41 : 0 ≤ (ji40)
                  · rw [if_pos c41] at H
                    have c41b0 := eq_true c41
                    have c41b1 : decide (0 ≤ (ji40)) = true := decide_eq_true c41
                    clear c41
                    by_cases c42 : (ji40) ≤ (a0.size : Int)
                    · rw [if_pos c42] at H
                      have c42b0 := eq_true c42
                      have c42b1 : decide ((ji40) ≤ (a0.size : Int)) = true := decide_eq_true c42
                      clear c42
                      replace H := Option.bind_eq_some_iff.mp H
                      obtain ⟨⟨t206, t207⟩, A430, H⟩ := H
                      replace H : (if t203 = true then (if t207 = true then (gossamerref9_Parse.j4 kj3 t202 t206 (decide ((wrap64 ((t202.length : Int) + (t206.length : Int))) > 7)) 0 0 0 0 0 0 0 0) else (gossamerref9_Parse.j4 kj3 t202 t206 true 0 0 0 0 0 0 0 0)) else (gossamerref9_Parse.j4 kj3 t202 t206 true 0 0 0 0 0 0 0 0)) = some (r1, r2, r3, r4, r5, r6, r7, r8, r9) := H
                      have A43 := Aside0.mk A430
                      clear A430
                      have HC44 := Aside0.mk H
                      clear H
                      go_upto_region 19 with (first | ((with_reducible refine gate_callee (f := 19) rfl ?_); refine goesL_ (some 70) rfl rfl Tryd.func19 (by kernel_rfl) rfl #[.string (a0.extract 0 (x5_1 : Int).toNat), .bool false] rfl (by (try simp only [List.map_toArray, List.map_cons, List.map_nil]); first | done | rfl | (simp only [List.length_drop, List.length_take]; rfl)) ?_; (with_reducible refine (gossamerref9_row.calls kj3 (a0.extract 0 (x5_1 : Int).toNat) false t202 t203 _ A39.out).mono ?_); rintro e w45 ⟨v204, rfl, ho0, hb⟩; refine ⟨_, rfl, ?_⟩; have n0_ := Aside0.mk (Kd.R_lower ho0 (below_size (by repeat (first | (with_reducible first | exact HB.out | apply below_alloc | apply pw_below_drewN | apply below_drew1 | refine below_set ?_ GE195.out | refine below_set ?_ GE196.out) | exact HB.out)))); have n1_ := Aside0.mk (blk_below (g := gb195) (o := .cells #[.int .u16 0, .int .u16 0, .int .u16 0, .int .u16 0, .int .u16 0, .int .u16 0, .int .u16 0, .int .u16 0] 24 (0, 0)) (by (with_reducible repeat (first | refine blk_drewN ?_ _ | refine blk_drew ?_ | refine blk_alloc ?_ _)); exact BK195.out) hb); have n2_ := Aside0.mk (blk_below (g := gb196) (o := .cells #[.int .u16 0, .int .u16 0, .int .u16 0, .int .u16 0, .int .u16 0, .int .u16 0, .int .u16 0, .int .u16 0] 24 (0, 0)) (by (with_reducible repeat (first | refine blk_drewN ?_ _ | refine blk_drew ?_ | refine blk_alloc ?_ _)); exact BK196.out) hb); have n3_ := Aside0.mk (below_step (by repeat (first | (with_reducible first | exact HB.out | apply below_alloc | apply pw_below_drewN | apply below_drew1 | refine below_set ?_ GE195.out | refine below_set ?_ GE196.out) | exact HB.out)) hb); clear BK195; clear BK196; clear HB; have HO205 := n0_; have BK195 := n1_; have BK196 := n2_; have HB := n3_; clear n0_ n1_ n2_ n3_; (try clear hb); (try clear hb2); (try clear hk); (try clear hi); (try clear ho0)) | ((with_reducible refine gate_callee (f := 19) rfl ?_); refine goesL_ (some 78) rfl rfl Tryd.func19 (by kernel_rfl) rfl #[.string (a0.extract ((ji40) : Int).toNat a0.size), .bool true] rfl (by (try simp only [List.map_toArray, List.map_cons, List.map_nil]); first | done | (simp only [hji40]; rfl) | rfl | (simp only [List.length_drop, List.length_take]; rfl)) ?_; (with_reducible refine (gossamerref9_row.calls kj3 (a0.extract ((ji40) : Int).toNat a0.size) true t206 t207 _ A43.out).mono ?_); rintro e w46 ⟨v208, rfl, ho0, hb⟩; refine ⟨_, rfl, ?_⟩; have n0_ := Aside0.mk (Kd.R_elder' (by (with_reducible repeat (first | apply Kd.R_alloc | apply Kd.R_drewN | apply Kd.R_drew)); exact HO205.out) (Kd.R_base ho0) hb); have n1_ := Aside0.mk (Kd.R_lower (Kd.R_new' ho0 (Kd.R_lt (by (with_reducible repeat (first | apply Kd.R_alloc | apply Kd.R_drewN | apply Kd.R_drew)); exact HO205.out))) (below_size (by repeat (first | (with_reducible first | exact HB.out | apply below_alloc | apply pw_below_drewN | apply below_drew1 | refine below_set ?_ GE195.out | refine below_set ?_ GE196.out) | exact HB.out)))); have n2_ := Aside0.mk (blk_below (g := gb195) (o := .cells #[.int .u16 0, .int .u16 0, .int .u16 0, .int .u16 0, .int .u16 0, .int .u16 0, .int .u16 0, .int .u16 0] 24 (0, 0)) (by (with_reducible repeat (first | refine blk_drewN ?_ _ | refine blk_drew ?_ | refine blk_alloc ?_ _)); exact BK195.out) hb); have n3_ := Aside0.mk (blk_below (g := gb196) (o := .cells #[.int .u16 0, .int .u16 0, .int .u16 0, .int .u16 0, .int .u16 0, .int .u16 0, .int .u16 0, .int .u16 0] 24 (0, 0)) (by (with_reducible repeat (first | refine blk_drewN ?_ _ | refine blk_drew ?_ | refine blk_alloc ?_ _)); exact BK196.out) hb); have n4_ := Aside0.mk (below_step (by repeat (first | (with_reducible first | exact HB.out | apply below_alloc | apply pw_below_drewN | apply below_drew1 | refine below_set ?_ GE195.out | refine below_set ?_ GE196.out) | exact HB.out)) hb); clear HO205; clear BK195; clear BK196; clear HB; have HO205 := n0_; have HO209 := n1_; have BK195 := n2_; have BK196 := n3_; have HB := n4_; clear n0_ n1_ n2_ n3_ n4_; (try clear hb); (try clear hb2); (try clear hk); (try clear hi); (try clear ho0)))
                      (try simp only [Act.put, List.setIfInBounds_toArray, List.set_cons_zero, List.set_cons_succ])
                      go_cut [94] (fun v94 wc => ∃ (kq : Nat) (x94_43 : Bool), v94 = .bool x94_43 ∧ Aside0 (gossamerref9_Parse.j4 kq t202 t206 x94_43 0 0 0 0 0 0 0 0 = some (r1, r2, r3, r4, r5, r6, r7, r8, r9)) ∧ Aside0 (kq ≤ kj3) ∧ Aside0 (Kd.R (Kd.int .i64) 3 wc w.heap.size (fun k_ => some k_ ≠ (v208 : Value).ownBlock) v204 t202) ∧ Aside0 (Kd.R (Kd.int .i64) 3 wc w.heap.size (fun k_ => some k_ ≠ (v204 : Value).ownBlock) v208 t206) ∧ Aside0 (wc.heap[gb195]? = some (.cells #[.int .u16 0, .int .u16 0, .int .u16 0, .int .u16 0, .int .u16 0, .int .u16 0, .int .u16 0, .int .u16 0] 24 (0, 0))) ∧ Aside0 (wc.heap[gb196]? = some (.cells #[.int .u16 0, .int .u16 0, .int .u16 0, .int .u16 0, .int .u16 0, .int .u16 0, .int .u16 0, .int .u16 0] 24 (0, 0))) ∧ Aside0 (Below w.heap.size w wc))
                      case first =>
                        have H := HC44.out
                        clear HC44
                        by_cases c47 : t203 = true
                        · subst c47
                          have H1 : (if t207 = true then (gossamerref9_Parse.j4 kj3 t202 t206 (decide ((wrap64 ((t202.length : Int) + (t206.length : Int))) > 7)) 0 0 0 0 0 0 0 0) else (gossamerref9_Parse.j4 kj3 t202 t206 true 0 0 0 0 0 0 0 0)) = some (r1, r2, r3, r4, r5, r6, r7, r8, r9) := by rw [if_pos rfl] at H; exact H
                          clear H
                          have H := H1
                          clear H1
                          by_cases c48 : t207 = true
                          · subst c48
                            have H1 : (gossamerref9_Parse.j4 kj3 t202 t206 (decide ((wrap64 ((t202.length : Int) + (t206.length : Int))) > 7)) 0 0 0 0 0 0 0 0) = some (r1, r2, r3, r4, r5, r6, r7, r8, r9) := by rw [if_pos rfl] at H; exact H
                            clear H
                            have H := H1
                            clear H1
                            have H' := Aside0.mk H
                            clear H
                            obtain ⟨Ao49, co49, eo49⟩ := Kd.R_slice HO205.out
                            subst eo49
                            obtain ⟨Ao50, co50, eo50⟩ := Kd.R_slice HO209.out
                            subst eo50
                            go_wp2
                            go_meet
                            case rel => exact ⟨_, (decide ((wrap64 ((t202.length : Int) + (t206.length : Int))) > 7)), (by first | rfl | (simp; done) | (simp [*]; done)), H', ⟨by have := HK1.out; have := HJ3.out; first | omega | exact Nat.le_refl _⟩, ⟨by (with_reducible repeat (first | apply Kd.R_alloc | apply Kd.R_drewN | apply Kd.R_drew)); exact Kd.R_mono HO205.out (fun _ hk => hk.2)⟩, ⟨by (with_reducible repeat (first | apply Kd.R_alloc | apply Kd.R_drewN | apply Kd.R_drew)); exact Kd.R_mono HO209.out (fun _ hk => hk.2)⟩, ⟨by (with_reducible repeat (first | refine blk_drewN ?_ _ | refine blk_drew ?_ | refine blk_alloc ?_ _)); exact BK195.out⟩, ⟨by (with_reducible repeat (first | refine blk_drewN ?_ _ | refine blk_drew ?_ | refine blk_alloc ?_ _)); exact BK196.out⟩, ⟨by repeat (first | (with_reducible first | exact HB.out | apply below_alloc | apply pw_below_drewN | apply below_drew1 | refine below_set ?_ GE195.out | refine below_set ?_ GE196.out) | exact HB.out)⟩⟩
                          · replace c48 := Bool.eq_false_iff.mpr c48
                            subst c48
                            have H1 : (gossamerref9_Parse.j4 kj3 t202 t206 true 0 0 0 0 0 0 0 0) = some (r1, r2, r3, r4, r5, r6, r7, r8, r9) := by rw [if_neg (show ¬ (false = true) by decide)] at H; exact H
                            clear H
                            have H := H1
                            clear H1
                            have H' := Aside0.mk H
                            clear H
                            go_wp2
                            go_meet
                            case rel => exact ⟨_, (true), (by first | rfl | (simp; done) | (simp [*]; done)), H', ⟨by have := HK1.out; have := HJ3.out; first | omega | exact Nat.le_refl _⟩, ⟨by (with_reducible repeat (first | apply Kd.R_alloc | apply Kd.R_drewN | apply Kd.R_drew)); exact Kd.R_mono HO205.out (fun _ hk => hk.2)⟩, ⟨by (with_reducible repeat (first | apply Kd.R_alloc | apply Kd.R_drewN | apply Kd.R_drew)); exact Kd.R_mono HO209.out (fun _ hk => hk.2)⟩, ⟨by (with_reducible repeat (first | refine blk_drewN ?_ _ | refine blk_drew ?_ | refine blk_alloc ?_ _)); exact BK195.out⟩, ⟨by (with_reducible repeat (first | refine blk_drewN ?_ _ | refine blk_drew ?_ | refine blk_alloc ?_ _)); exact BK196.out⟩, ⟨by repeat (first | (with_reducible first | exact HB.out | apply below_alloc | apply pw_below_drewN | apply below_drew1 | refine below_set ?_ GE195.out | refine below_set ?_ GE196.out) | exact HB.out)⟩⟩
                        · replace c47 := Bool.eq_false_iff.mpr c47
                          subst c47
                          have H1 : (gossamerref9_Parse.j4 kj3 t202 t206 true 0 0 0 0 0 0 0 0) = some (r1, r2, r3, r4, r5, r6, r7, r8, r9) := by rw [if_neg (show ¬ (false = true) by decide)] at H; exact H
                          clear H
                          have H := H1
                          clear H1
                          have H' := Aside0.mk H
                          clear H
                          go_wp2
                          go_meet
                          case rel => exact ⟨_, (true), (by first | rfl | (simp; done) | (simp [*]; done)), H', ⟨by have := HK1.out; have := HJ3.out; first | omega | exact Nat.le_refl _⟩, ⟨by (with_reducible repeat (first | apply Kd.R_alloc | apply Kd.R_drewN | apply Kd.R_drew)); exact Kd.R_mono HO205.out (fun _ hk => hk.2)⟩, ⟨by (with_reducible repeat (first | apply Kd.R_alloc | apply Kd.R_drewN | apply Kd.R_drew)); exact Kd.R_mono HO209.out (fun _ hk => hk.2)⟩, ⟨by (with_reducible repeat (first | refine blk_drewN ?_ _ | refine blk_drew ?_ | refine blk_alloc ?_ _)); exact BK195.out⟩, ⟨by (with_reducible repeat (first | refine blk_drewN ?_ _ | refine blk_drew ?_ | refine blk_alloc ?_ _)); exact BK196.out⟩, ⟨by repeat (first | (with_reducible first | exact HB.out | apply below_alloc | apply pw_below_drewN | apply below_drew1 | refine below_set ?_ GE195.out | refine below_set ?_ GE196.out) | exact HB.out)⟩⟩
                      case rest =>
                        clear HC44
                        try clear c1
                        try clear p1
                        try clear q1
                        try clear hx1
                        try clear c2
                        try clear p2
                        try clear q2
                        try clear hx2
                        try clear c3
                        try clear p3
                        try clear q3
                        try clear hx3
                        try clear hf3
                        try clear c4
                        try clear c5
                        try clear c5b0
                        try clear c6
                        try clear p6
                        try clear c7
                        try clear c7b0
                        try clear c8
                        try clear c8b0
                        try clear c9
                        try clear p9
                        try clear q9
                        try clear hx9
                        try clear c10
                        try clear c10b0
                        try clear c10b1
                        try clear c12
                        try clear c12b0
                        try clear c13
                        try clear c13b0
                        try clear p14
                        try clear q14
                        try clear hx14
                        try clear c15
                        try clear c15b0
                        try clear c15b1
                        try clear c16
                        try clear c16b0
                        try clear c19
                        try clear c20
                        try clear p20
                        try clear q20
                        try clear hx20
                        try clear c22
                        try clear c23
                        try clear c26
                        try clear c26b0
                        try clear c27
                        try clear c27b0
                        try clear c28
                        try clear c28b0
                        try clear p29
                        try clear q29
                        try clear p30
                        try clear q30
                        try clear hx30
                        try clear hf30
                        try clear c32
                        try clear c34
                        try clear c37
                        try clear c37b0
                        try clear c37b1
                        try clear c38
                        try clear c38b0
                        try clear c38b1
                        try clear c41
                        try clear c41b0
                        try clear c41b1
                        try clear c42
                        try clear c42b0
                        try clear c42b1
                        try clear c47
                        try clear c48
                        try clear hcz24_0
                        try clear hcz24_1
                        try clear hcz24_2
                        try clear hcz24_3
                        try clear hcz24_4
                        try clear hcz24_5
                        try clear hcz24_6
                        try clear hcz24_7
                        try clear hcz25_0
                        try clear hcz25_1
                        try clear hcz25_2
                        try clear hcz25_3
                        try clear hcz25_4
                        try clear hcz25_5
                        try clear hcz25_6
                        try clear hcz25_7
                        try clear hcz33_0
                        try clear hcz33_1
                        try clear hcz33_2
                        try clear hcz33_3
                        try clear hcz33_4
                        try clear hcz33_5
                        try clear hcz33_6
                        try clear hcz33_7
                        try clear hcz35_0
                        try clear hcz35_1
                        try clear hcz35_2
                        try clear hcz35_3
                        try clear hcz35_4
                        try clear hcz35_5
                        try clear hcz35_6
                        try clear hcz35_7
                        try clear hcz36_0
                        try clear hcz36_1
                        try clear hcz36_2
                        try clear hcz36_3
                        try clear hcz36_4
                        try clear hcz36_5
                        try clear hcz36_6
                        try clear hcz36_7
                        try clear hfz24_0
                        try clear hfz24_1
                        try clear hfz24_2
                        try clear hfz24_3
                        try clear hfz24_4
                        try clear hfz24_5
                        try clear hfz24_6
                        try clear hfz24_7
                        try clear hfz25_0
                        try clear hfz25_1
                        try clear hfz25_2
                        try clear hfz25_3
                        try clear hfz25_4
                        try clear hfz25_5
                        try clear hfz25_6
                        try clear hfz25_7
                        try clear hfz33_0
                        try clear hfz33_1
                        try clear hfz33_2
                        try clear hfz33_3
                        try clear hfz33_4
                        try clear hfz33_5
                        try clear hfz33_6
                        try clear hfz33_7
                        try clear hfz35_0
                        try clear hfz35_1
                        try clear hfz35_2
                        try clear hfz35_3
                        try clear hfz35_4
                        try clear hfz35_5
                        try clear hfz35_6
                        try clear hfz35_7
                        try clear hfz36_0
                        try clear hfz36_1
                        try clear hfz36_2
                        try clear hfz36_3
                        try clear hfz36_4
                        try clear hfz36_5
                        try clear hfz36_6
                        try clear hfz36_7
                        try clear hx201_0
                        try clear p1
                        try clear p14
                        try clear p2
                        try clear p201
                        try clear p29
                        try clear p30
                        try clear p6
                        try clear p9
                        try clear q1
                        try clear q14
                        try clear q201
                        try clear q29
                        try clear q30
                        try clear q9
                        obtain ⟨kq, x94_43, rfl, HA, HJ43, HO_10, HO_12, BK195, BK196, HB⟩ := hcut
                        cases kq with
                        | zero => exact absurd HA.out (by simp [gossamerref9_Parse.j4])
                        | succ kj43 =>
                          have H := HA.out
                          clear HA
                          simp only [gossamerref9_Parse.j4] at H
                          by_cases c51 : x94_43 = true
                          · subst c51
                            have H1 : (some (0, 0, 0, 0, 0, 0, 0, 0, false)) = some (r1, r2, r3, r4, r5, r6, r7, r8, r9) := by rw [if_pos rfl] at H; exact H
                            clear H
                            have H := H1
                            clear H1
                            simp only [Option.some.injEq, Prod.mk.injEq] at H
                            obtain ⟨rfl, rfl, rfl, rfl, rfl, rfl, rfl, rfl, rfl⟩ := H
                            have hnb52 := NB196_195.out
                            have hnc52 := NB195_196.out
                            have hcz53_0 : wc.cell? ⟨gb196, 0, none⟩ = some (.int .u16 0) := (blk_cell BK196.out 0).trans rfl
                            have hcz53_1 : wc.cell? ⟨gb196, 1, none⟩ = some (.int .u16 0) := (blk_cell BK196.out 1).trans rfl
                            have hcz53_2 : wc.cell? ⟨gb196, 2, none⟩ = some (.int .u16 0) := (blk_cell BK196.out 2).trans rfl
                            have hcz53_3 : wc.cell? ⟨gb196, 3, none⟩ = some (.int .u16 0) := (blk_cell BK196.out 3).trans rfl
                            have hcz53_4 : wc.cell? ⟨gb196, 4, none⟩ = some (.int .u16 0) := (blk_cell BK196.out 4).trans rfl
                            have hcz53_5 : wc.cell? ⟨gb196, 5, none⟩ = some (.int .u16 0) := (blk_cell BK196.out 5).trans rfl
                            have hcz53_6 : wc.cell? ⟨gb196, 6, none⟩ = some (.int .u16 0) := (blk_cell BK196.out 6).trans rfl
                            have hcz53_7 : wc.cell? ⟨gb196, 7, none⟩ = some (.int .u16 0) := (blk_cell BK196.out 7).trans rfl
                            have hfz53_0 := blk_frozen BK196.out 0
                            have hfz53_1 := blk_frozen BK196.out 1
                            have hfz53_2 := blk_frozen BK196.out 2
                            have hfz53_3 := blk_frozen BK196.out 3
                            have hfz53_4 := blk_frozen BK196.out 4
                            have hfz53_5 := blk_frozen BK196.out 5
                            have hfz53_6 := blk_frozen BK196.out 6
                            have hfz53_7 := blk_frozen BK196.out 7
                            have hcz54_0 : wc.cell? ⟨gb195, 0, none⟩ = some (.int .u16 0) := (blk_cell BK195.out 0).trans rfl
                            have hcz54_1 : wc.cell? ⟨gb195, 1, none⟩ = some (.int .u16 0) := (blk_cell BK195.out 1).trans rfl
                            have hcz54_2 : wc.cell? ⟨gb195, 2, none⟩ = some (.int .u16 0) := (blk_cell BK195.out 2).trans rfl
                            have hcz54_3 : wc.cell? ⟨gb195, 3, none⟩ = some (.int .u16 0) := (blk_cell BK195.out 3).trans rfl
                            have hcz54_4 : wc.cell? ⟨gb195, 4, none⟩ = some (.int .u16 0) := (blk_cell BK195.out 4).trans rfl
                            have hcz54_5 : wc.cell? ⟨gb195, 5, none⟩ = some (.int .u16 0) := (blk_cell BK195.out 5).trans rfl
                            have hcz54_6 : wc.cell? ⟨gb195, 6, none⟩ = some (.int .u16 0) := (blk_cell BK195.out 6).trans rfl
                            have hcz54_7 : wc.cell? ⟨gb195, 7, none⟩ = some (.int .u16 0) := (blk_cell BK195.out 7).trans rfl
                            have hfz54_0 := blk_frozen BK195.out 0
                            have hfz54_1 := blk_frozen BK195.out 1
                            have hfz54_2 := blk_frozen BK195.out 2
                            have hfz54_3 := blk_frozen BK195.out 3
                            have hfz54_4 := blk_frozen BK195.out 4
                            have hfz54_5 := blk_frozen BK195.out 5
                            have hfz54_6 := blk_frozen BK195.out 6
                            have hfz54_7 := blk_frozen BK195.out 7
                            go_wp2
                            refine bodyPost_ret (results_ct rfl _ _ gb195 24 #[.int .u16 0, .int .u16 0, .int .u16 0, .int .u16 0, .int .u16 0, .int .u16 0, .int .u16 0, .int .u16 0] (0, 0) _ rfl (by (with_reducible repeat (first | refine blk_drewN ?_ _ | refine blk_drew ?_ | refine blk_alloc ?_ _)); refine blk_put (cs := #[.int .u16 0, .int .u16 0, .int .u16 0, .int .u16 0, .int .u16 0, .int .u16 0, .int .u16 0, .int .u16 0]) ?_ 7 _ rfl; (with_reducible repeat (first | refine blk_drewN ?_ _ | refine blk_drew ?_ | refine blk_alloc ?_ _)); refine blk_put (cs := #[.int .u16 0, .int .u16 0, .int .u16 0, .int .u16 0, .int .u16 0, .int .u16 0, .int .u16 0, .int .u16 0]) ?_ 6 _ rfl; (with_reducible repeat (first | refine blk_drewN ?_ _ | refine blk_drew ?_ | refine blk_alloc ?_ _)); refine blk_put (cs := #[.int .u16 0, .int .u16 0, .int .u16 0, .int .u16 0, .int .u16 0, .int .u16 0, .int .u16 0, .int .u16 0]) ?_ 5 _ rfl; (with_reducible repeat (first | refine blk_drewN ?_ _ | refine blk_drew ?_ | refine blk_alloc ?_ _)); refine blk_put (cs := #[.int .u16 0, .int .u16 0, .int .u16 0, .int .u16 0, .int .u16 0, .int .u16 0, .int .u16 0, .int .u16 0]) ?_ 4 _ rfl; (with_reducible repeat (first | refine blk_drewN ?_ _ | refine blk_drew ?_ | refine blk_alloc ?_ _)); refine blk_put (cs := #[.int .u16 0, .int .u16 0, .int .u16 0, .int .u16 0, .int .u16 0, .int .u16 0, .int .u16 0, .int .u16 0]) ?_ 3 _ rfl; (with_reducible repeat (first | refine blk_drewN ?_ _ | refine blk_drew ?_ | refine blk_alloc ?_ _)); refine blk_put (cs := #[.int .u16 0, .int .u16 0, .int .u16 0, .int .u16 0, .int .u16 0, .int .u16 0, .int .u16 0, .int .u16 0]) ?_ 2 _ rfl; (with_reducible repeat (first | refine blk_drewN ?_ _ | refine blk_drew ?_ | refine blk_alloc ?_ _)); refine blk_put (cs := #[.int .u16 0, .int .u16 0, .int .u16 0, .int .u16 0, .int .u16 0, .int .u16 0, .int .u16 0, .int .u16 0]) ?_ 1 _ rfl; (with_reducible repeat (first | refine blk_drewN ?_ _ | refine blk_drew ?_ | refine blk_alloc ?_ _)); refine blk_put (cs := #[.int .u16 0, .int .u16 0, .int .u16 0, .int .u16 0, .int .u16 0, .int .u16 0, .int .u16 0, .int .u16 0]) ?_ 0 _ rfl; (with_reducible repeat (first | refine blk_drewN ?_ _ | refine blk_drew ?_ | refine blk_alloc ?_ _)); exact BK195.out) Tryd.underlying24 rfl (by kernel_rfl)) rfl ?_
                            exact ⟨by first | rfl | (simp [errW_none, errW_some] <;> rfl) | (simp only [← hji40]; first | rfl | (simp [errW_none, errW_some] <;> rfl)) | (simp [*, errW_none, errW_some] <;> rfl), by repeat (first | (with_reducible first | exact HB.out | apply below_alloc | apply pw_below_drewN | apply below_drew1 | refine below_set ?_ GE195.out | refine below_set ?_ GE196.out) | exact HB.out)⟩
                          · replace c51 := Bool.eq_false_iff.mpr c51
                            subst c51
                            have H1 : (gossamerref9_Parse.l2 kj43 t202 t206 0 0 0 0 0 0 0 0 0) = some (r1, r2, r3, r4, r5, r6, r7, r8, r9) := by rw [if_neg (show ¬ (false = true) by decide)] at H; exact H
                            clear H
                            have H := H1
                            clear H1
                            have H' := Aside0.mk H
                            clear H
                            go_wp2
                            go_loopg [14] kj43 (fun kq v14 w' => ∃ (x14_4 : Int) (x197000_4 : Int) (x197001_4 : Int) (x197002_4 : Int) (x197003_4 : Int) (x197004_4 : Int) (x197005_4 : Int) (x197006_4 : Int) (x197007_4 : Int), v14 = .int .i64 x14_4 ∧ Aside0 (gossamerref9_Parse.l2 kq t202 t206 x14_4 x197000_4 x197001_4 x197002_4 x197003_4 x197004_4 x197005_4 x197006_4 x197007_4 = some (r1, r2, r3, r4, r5, r6, r7, r8, r9)) ∧ Aside0 (kq ≤ kj43) ∧ Aside0 (Kd.R (Kd.int .i64) 3 w' w.heap.size (fun k_ => some k_ ≠ (v208 : Value).ownBlock) v204 t202) ∧ Aside0 (Kd.R (Kd.int .i64) 3 w' w.heap.size (fun k_ => some k_ ≠ (v204 : Value).ownBlock) v208 t206) ∧ Aside0 (w'.heap[gb195]? = some (.cells #[.int .u16 0, .int .u16 0, .int .u16 0, .int .u16 0, .int .u16 0, .int .u16 0, .int .u16 0, .int .u16 0] 24 (0, 0))) ∧ Aside0 (w'.heap[gb196]? = some (.cells #[.int .u16 x197000_4, .int .u16 x197001_4, .int .u16 x197002_4, .int .u16 x197003_4, .int .u16 x197004_4, .int .u16 x197005_4, .int .u16 x197006_4, .int .u16 x197007_4] 24 (0, 0))) ∧ Aside0 (Below w.heap.size w w'))
                            case atStart => exact ⟨(0), (0), (0), (0), (0), (0), (0), (0), (0), (by first | rfl | (simp; done) | (simp [*]; done)), H', ⟨Nat.le_refl _⟩, ⟨by (with_reducible repeat (first | apply Kd.R_alloc | apply Kd.R_drewN | apply Kd.R_drew)); exact HO_10.out⟩, ⟨by (with_reducible repeat (first | apply Kd.R_alloc | apply Kd.R_drewN | apply Kd.R_drew)); exact HO_12.out⟩, ⟨by (with_reducible repeat (first | refine blk_drewN ?_ _ | refine blk_drew ?_ | refine blk_alloc ?_ _)); exact BK195.out⟩, ⟨by (with_reducible repeat (first | refine blk_drewN ?_ _ | refine blk_drew ?_ | refine blk_alloc ?_ _)); exact BK196.out⟩, ⟨by repeat (first | (with_reducible first | exact HB.out | apply below_alloc | apply pw_below_drewN | apply below_drew1 | refine below_set ?_ GE195.out | refine below_set ?_ GE196.out) | exact HB.out)⟩⟩
                            case round =>
                              clear H'
                              try clear c1
                              try clear p1
                              try clear q1
                              try clear hx1
                              try clear c2
                              try clear p2
                              try clear q2
                              try clear hx2
                              try clear c3
                              try clear p3
                              try clear q3
                              try clear hx3
                              try clear hf3
                              try clear c4
                              try clear c5
                              try clear c5b0
                              try clear c6
                              try clear p6
                              try clear c7
                              try clear c7b0
                              try clear c8
                              try clear c8b0
                              try clear c9
                              try clear p9
                              try clear q9
                              try clear hx9
                              try clear c10
                              try clear c10b0
                              try clear c10b1
                              try clear c12
                              try clear c12b0
                              try clear c13
                              try clear c13b0
                              try clear p14
                              try clear q14
                              try clear hx14
                              try clear c15
                              try clear c15b0
                              try clear c15b1
                              try clear c16
                              try clear c16b0
                              try clear c19
                              try clear c20
                              try clear p20
                              try clear q20
                              try clear hx20
                              try clear c22
                              try clear c23
                              try clear c26
                              try clear c26b0
                              try clear c27
                              try clear c27b0
                              try clear c28
                              try clear c28b0
                              try clear p29
                              try clear q29
                              try clear p30
                              try clear q30
                              try clear hx30
                              try clear hf30
                              try clear c32
                              try clear c34
                              try clear c37
                              try clear c37b0
                              try clear c37b1
                              try clear c38
                              try clear c38b0
                              try clear c38b1
                              try clear c41
                              try clear c41b0
                              try clear c41b1
                              try clear c42
                              try clear c42b0
                              try clear c42b1
                              try clear c47
                              try clear c48
                              try clear c51
                              try clear c52
                              try clear hcz24_0
                              try clear hcz24_1
                              try clear hcz24_2
                              try clear hcz24_3
                              try clear hcz24_4
                              try clear hcz24_5
                              try clear hcz24_6
                              try clear hcz24_7
                              try clear hcz25_0
                              try clear hcz25_1
                              try clear hcz25_2
                              try clear hcz25_3
                              try clear hcz25_4
                              try clear hcz25_5
                              try clear hcz25_6
                              try clear hcz25_7
                              try clear hcz33_0
                              try clear hcz33_1
                              try clear hcz33_2
                              try clear hcz33_3
                              try clear hcz33_4
                              try clear hcz33_5
                              try clear hcz33_6
                              try clear hcz33_7
                              try clear hcz35_0
                              try clear hcz35_1
                              try clear hcz35_2
                              try clear hcz35_3
                              try clear hcz35_4
                              try clear hcz35_5
                              try clear hcz35_6
                              try clear hcz35_7
                              try clear hcz36_0
                              try clear hcz36_1
                              try clear hcz36_2
                              try clear hcz36_3
                              try clear hcz36_4
                              try clear hcz36_5
                              try clear hcz36_6
                              try clear hcz36_7
                              try clear hcz53_0
                              try clear hcz53_1
                              try clear hcz53_2
                              try clear hcz53_3
                              try clear hcz53_4
                              try clear hcz53_5
                              try clear hcz53_6
                              try clear hcz53_7
                              try clear hcz54_0
                              try clear hcz54_1
                              try clear hcz54_2
                              try clear hcz54_3
                              try clear hcz54_4
                              try clear hcz54_5
                              try clear hcz54_6
                              try clear hcz54_7
                              try clear hfz24_0
                              try clear hfz24_1
                              try clear hfz24_2
                              try clear hfz24_3
                              try clear hfz24_4
                              try clear hfz24_5
                              try clear hfz24_6
                              try clear hfz24_7
                              try clear hfz25_0
                              try clear hfz25_1
                              try clear hfz25_2
                              try clear hfz25_3
                              try clear hfz25_4
                              try clear hfz25_5
                              try clear hfz25_6
                              try clear hfz25_7
                              try clear hfz33_0
                              try clear hfz33_1
                              try clear hfz33_2
                              try clear hfz33_3
                              try clear hfz33_4
                              try clear hfz33_5
                              try clear hfz33_6
                              try clear hfz33_7
                              try clear hfz35_0
                              try clear hfz35_1
                              try clear hfz35_2
                              try clear hfz35_3
                              try clear hfz35_4
                              try clear hfz35_5
                              try clear hfz35_6
                              try clear hfz35_7
                              try clear hfz36_0
                              try clear hfz36_1
                              try clear hfz36_2
                              try clear hfz36_3
                              try clear hfz36_4
                              try clear hfz36_5
                              try clear hfz36_6
                              try clear hfz36_7
                              try clear hfz53_0
                              try clear hfz53_1
                              try clear hfz53_2
                              try clear hfz53_3
                              try clear hfz53_4
                              try clear hfz53_5
                              try clear hfz53_6
                              try clear hfz53_7
                              try clear hfz54_0
                              try clear hfz54_1
                              try clear hfz54_2
                              try clear hfz54_3
                              try clear hfz54_4
                              try clear hfz54_5
                              try clear hfz54_6
                              try clear hfz54_7
                              try clear hx201_0
                              try clear p1
                              try clear p14
                              try clear p2
                              try clear p20
                              try clear p201
                              try clear p29
                              try clear p3
                              try clear p30
                              try clear p6
                              try clear p9
                              try clear q1
                              try clear q14
                              try clear q2
                              try clear q20
                              try clear q201
                              try clear q29
                              try clear q3
                              try clear q30
                              try clear q9
                              obtain ⟨x14_4, x197000_4, x197001_4, x197002_4, x197003_4, x197004_4, x197005_4, x197006_4, x197007_4, rfl, HA, HK4, HO_10, HO_12, BK195, BK196, HB⟩ := hrel
                              cases gk with
                              | zero => exact absurd HA.out (by simp [gossamerref9_Parse.l2])
                              | succ k4 =>
                                have H := HA.out
                                clear HA
                                simp only [gossamerref9_Parse.l2] at H
                                by_cases c55 : x14_4 < (t202.length : Int)
                                · rw [if_pos c55] at H
                                  have c55b0 : decide (x14_4 < (t202.length : Int)) = true := decide_eq_true c55
                                  clear c55
                                  by_cases c56 : 0 ≤ x14_4
                                  · rw [if_pos c56] at H
                                    have c56b0 : decide (0 ≤ x14_4) = true := decide_eq_true c56
                                    clear c56
                                    by_cases c57 : x14_4 < 8
                                    · rw [if_pos c57] at H
                                      have c57b0 : decide (x14_4 < 8) = true := decide_eq_true c57
                                      clear c57
                                      have H' := Aside0.mk H
                                      clear H
                                      obtain ⟨Ao60, co60, eo60⟩ := Kd.R_slice HO_10.out
                                      subst eo60
                                      have p210 : 0 ≤ (x14_4 : Int) := of_decide_eq_true (by first | (with_reducible assumption) | assumption)
                                      have q210 : x14_4 < (t202.length : Int) := of_decide_eq_true (by first | (with_reducible assumption) | assumption)
                                      obtain ⟨ad210, e210, hx210_0⟩ := Kd.at_int (Kd.R_reads' HO_10.out).2.2 x14_4 p210 q210
                                      cases e210
                                      replace p210 := eq_true p210
                                      replace q210 := eq_true q210
                                      have p58 : 0 ≤ (x14_4 : Int) := of_decide_eq_true (by first | (with_reducible assumption) | assumption)
                                      have q58 : (x14_4 : Int) < (8 : Int) := of_decide_eq_true (by first | (with_reducible assumption) | assumption)
                                      replace p58 := eq_true p58
                                      replace q58 := eq_true q58
                                      have p59 : 0 ≤ (x14_4 : Int) := of_decide_eq_true (by first | (with_reducible assumption) | assumption)
                                      have q59 : (x14_4 : Int) < (8 : Int) := of_decide_eq_true (by first | (with_reducible assumption) | assumption)
                                      replace p59 := eq_true p59
                                      replace q59 := eq_true q59
                                      have hnb61 := NB196_195.out
                                      have hnc61 := NB195_196.out
                                      have hcz62_0 : wr.cell? ⟨gb196, 0, none⟩ = some (.int .u16 x197000_4) := (blk_cell BK196.out 0).trans rfl
                                      have hcz62_1 : wr.cell? ⟨gb196, 1, none⟩ = some (.int .u16 x197001_4) := (blk_cell BK196.out 1).trans rfl
                                      have hcz62_2 : wr.cell? ⟨gb196, 2, none⟩ = some (.int .u16 x197002_4) := (blk_cell BK196.out 2).trans rfl
                                      have hcz62_3 : wr.cell? ⟨gb196, 3, none⟩ = some (.int .u16 x197003_4) := (blk_cell BK196.out 3).trans rfl
                                      have hcz62_4 : wr.cell? ⟨gb196, 4, none⟩ = some (.int .u16 x197004_4) := (blk_cell BK196.out 4).trans rfl
                                      have hcz62_5 : wr.cell? ⟨gb196, 5, none⟩ = some (.int .u16 x197005_4) := (blk_cell BK196.out 5).trans rfl
                                      have hcz62_6 : wr.cell? ⟨gb196, 6, none⟩ = some (.int .u16 x197006_4) := (blk_cell BK196.out 6).trans rfl
                                      have hcz62_7 : wr.cell? ⟨gb196, 7, none⟩ = some (.int .u16 x197007_4) := (blk_cell BK196.out 7).trans rfl
                                      have hfz62_0 := blk_frozen BK196.out 0
                                      have hfz62_1 := blk_frozen BK196.out 1
                                      have hfz62_2 := blk_frozen BK196.out 2
                                      have hfz62_3 := blk_frozen BK196.out 3
                                      have hfz62_4 := blk_frozen BK196.out 4
                                      have hfz62_5 := blk_frozen BK196.out 5
                                      have hfz62_6 := blk_frozen BK196.out 6
                                      have hfz62_7 := blk_frozen BK196.out 7
                                      have hx59 : wr.cell? ⟨gb196, (x14_4 : Int).toNat, none⟩ = some (.int .u16 (rd ([x197000_4, x197001_4, x197002_4, x197003_4, x197004_4, x197005_4, x197006_4, x197007_4] : List Int) x14_4)) := arr_cell (Value.int .u16) 0 (xs := ([x197000_4, x197001_4, x197002_4, x197003_4, x197004_4, x197005_4, x197006_4, x197007_4] : List Int)) BK196.out (x14_4) (of_eq_true p59) (of_eq_true q59)
                                      have hf59 := blk_frozen BK196.out (x14_4 : Int).toNat
                                      go_wp2
                                      go_roundg k4
                                      case measure => have := HK1.out; have := HJ3.out; have := HJ43.out; have := HK4.out; omega
                                      case rel => exact ⟨(wrap64 (x14_4 + 1)), ((if x14_4 = 0 then IntKind.u16.wrap (rd t202 x14_4) else x197000_4)), ((if x14_4 = 1 then IntKind.u16.wrap (rd t202 x14_4) else x197001_4)), ((if x14_4 = 2 then IntKind.u16.wrap (rd t202 x14_4) else x197002_4)), ((if x14_4 = 3 then IntKind.u16.wrap (rd t202 x14_4) else x197003_4)), ((if x14_4 = 4 then IntKind.u16.wrap (rd t202 x14_4) else x197004_4)), ((if x14_4 = 5 then IntKind.u16.wrap (rd t202 x14_4) else x197005_4)), ((if x14_4 = 6 then IntKind.u16.wrap (rd t202 x14_4) else x197006_4)), ((if x14_4 = 7 then IntKind.u16.wrap (rd t202 x14_4) else x197007_4)), (by first | rfl | (simp; done) | (simp [*]; done)), H', ⟨by have := HK1.out; have := HJ3.out; have := HJ43.out; have := HK4.out; omega⟩, ⟨by (with_reducible repeat (first | apply Kd.R_alloc | apply Kd.R_drewN | apply Kd.R_drew)); exact Kd.R_mono (Kd.R_far (p := ⟨gb196, (x14_4 : Int).toNat, none⟩) (Kd.R_types HO_10.out BK196.out (by decide)) (fun _ hk => hk.2) (.int .u16 (IntKind.u16.wrap (rd t202 x14_4)))) (fun _ hk => hk.1)⟩, ⟨by (with_reducible repeat (first | apply Kd.R_alloc | apply Kd.R_drewN | apply Kd.R_drew)); exact Kd.R_mono (Kd.R_far (p := ⟨gb196, (x14_4 : Int).toNat, none⟩) (Kd.R_types HO_12.out BK196.out (by decide)) (fun _ hk => hk.2) (.int .u16 (IntKind.u16.wrap (rd t202 x14_4)))) (fun _ hk => hk.1)⟩, ⟨by (with_reducible repeat (first | refine blk_drewN ?_ _ | refine blk_drew ?_ | refine blk_alloc ?_ _)); refine blk_far ?_ NB195_196.out _; (with_reducible repeat (first | refine blk_drewN ?_ _ | refine blk_drew ?_ | refine blk_alloc ?_ _)); exact BK195.out⟩, ⟨by (with_reducible repeat (first | refine blk_drewN ?_ _ | refine blk_drew ?_ | refine blk_alloc ?_ _)); refine blk_put (cs := #[.int .u16 x197000_4, .int .u16 x197001_4, .int .u16 x197002_4, .int .u16 x197003_4, .int .u16 x197004_4, .int .u16 x197005_4, .int .u16 x197006_4, .int .u16 x197007_4]) ?_ ((x14_4 : Int).toNat) _ (arr_set (Value.int .u16) ([x197000_4, x197001_4, x197002_4, x197003_4, x197004_4, x197005_4, x197006_4, x197007_4] : List Int) (x14_4) (of_eq_true p59) (IntKind.u16.wrap (rd t202 x14_4))); (with_reducible repeat (first | refine blk_drewN ?_ _ | refine blk_drew ?_ | refine blk_alloc ?_ _)); exact BK196.out⟩, ⟨by repeat (first | (with_reducible first | exact HB.out | apply below_alloc | apply pw_below_drewN | apply below_drew1 | refine below_set ?_ GE195.out | refine below_set ?_ GE196.out) | exact HB.out)⟩⟩
                                    · rw [if_neg c57] at H
                                      exact absurd H (by simp)
                                  · rw [if_neg c56] at H
                                    exact absurd H (by simp)
                                · rw [if_neg c55] at H
                                  have c55b0 : decide (x14_4 < (t202.length : Int)) = false := decide_eq_false c55
                                  clear c55
                                  have H' := Aside0.mk H
                                  clear H
                                  obtain ⟨Ao63, co63, eo63⟩ := Kd.R_slice HO_10.out
                                  subst eo63
                                  go_wp2
                                  go_loopg [15] k4 (fun kq v15 w' => ∃ (x15_5 : Int) (x197000_5 : Int) (x197001_5 : Int) (x197002_5 : Int) (x197003_5 : Int) (x197004_5 : Int) (x197005_5 : Int) (x197006_5 : Int) (x197007_5 : Int), v15 = .int .i64 x15_5 ∧ Aside0 (gossamerref9_Parse.l3 kq t206 x15_5 x197000_5 x197001_5 x197002_5 x197003_5 x197004_5 x197005_5 x197006_5 x197007_5 = some (r1, r2, r3, r4, r5, r6, r7, r8, r9)) ∧ Aside0 (kq ≤ k4) ∧ Aside0 (Kd.R (Kd.int .i64) 3 w' w.heap.size (fun _ => True) v208 t206) ∧ Aside0 (w'.heap[gb195]? = some (.cells #[.int .u16 0, .int .u16 0, .int .u16 0, .int .u16 0, .int .u16 0, .int .u16 0, .int .u16 0, .int .u16 0] 24 (0, 0))) ∧ Aside0 (w'.heap[gb196]? = some (.cells #[.int .u16 x197000_5, .int .u16 x197001_5, .int .u16 x197002_5, .int .u16 x197003_5, .int .u16 x197004_5, .int .u16 x197005_5, .int .u16 x197006_5, .int .u16 x197007_5] 24 (0, 0))) ∧ Aside0 (Below w.heap.size w w'))
                                  case atStart => exact ⟨(0), (x197000_4), (x197001_4), (x197002_4), (x197003_4), (x197004_4), (x197005_4), (x197006_4), (x197007_4), (by first | rfl | (simp; done) | (simp [*]; done)), H', ⟨Nat.le_refl _⟩, ⟨by (with_reducible repeat (first | apply Kd.R_alloc | apply Kd.R_drewN | apply Kd.R_drew)); exact Kd.R_mono HO_12.out (fun _ hk => trivial)⟩, ⟨by (with_reducible repeat (first | refine blk_drewN ?_ _ | refine blk_drew ?_ | refine blk_alloc ?_ _)); exact BK195.out⟩, ⟨by (with_reducible repeat (first | refine blk_drewN ?_ _ | refine blk_drew ?_ | refine blk_alloc ?_ _)); exact BK196.out⟩, ⟨by repeat (first | (with_reducible first | exact HB.out | apply below_alloc | apply pw_below_drewN | apply below_drew1 | refine below_set ?_ GE195.out | refine below_set ?_ GE196.out) | exact HB.out)⟩⟩
                                  case round =>
                                    clear H'
                                    try clear c1
                                    try clear p1
                                    try clear q1
                                    try clear hx1
                                    try clear c2
                                    try clear p2
                                    try clear q2
                                    try clear hx2
                                    try clear c3
                                    try clear p3
                                    try clear q3
                                    try clear hx3
                                    try clear hf3
                                    try clear c4
                                    try clear c5
                                    try clear c5b0
                                    try clear p5
                                    try clear q5
                                    try clear hx5
                                    try clear hf5
                                    try clear c6
                                    try clear p6
                                    try clear c7
                                    try clear c7b0
                                    try clear c8
                                    try clear c8b0
                                    try clear c9
                                    try clear p9
                                    try clear q9
                                    try clear hx9
                                    try clear c10
                                    try clear c10b0
                                    try clear c10b1
                                    try clear c12
                                    try clear c12b0
                                    try clear c13
                                    try clear c13b0
                                    try clear p14
                                    try clear q14
                                    try clear hx14
                                    try clear c15
                                    try clear c15b0
                                    try clear c15b1
                                    try clear c16
                                    try clear c16b0
                                    try clear c19
                                    try clear c20
                                    try clear p20
                                    try clear q20
                                    try clear hx20
                                    try clear p21
                                    try clear q21
                                    try clear hx21
                                    try clear c22
                                    try clear c23
                                    try clear c26
                                    try clear c26b0
                                    try clear c27
                                    try clear c27b0
                                    try clear c28
                                    try clear c28b0
                                    try clear p29
                                    try clear q29
                                    try clear p30
                                    try clear q30
                                    try clear hx30
                                    try clear hf30
                                    try clear c32
                                    try clear c34
                                    try clear c37
                                    try clear c37b0
                                    try clear c37b1
                                    try clear c38
                                    try clear c38b0
                                    try clear c38b1
                                    try clear c41
                                    try clear c41b0
                                    try clear c41b1
                                    try clear c42
                                    try clear c42b0
                                    try clear c42b1
                                    try clear c47
                                    try clear c48
                                    try clear c51
                                    try clear c52
                                    try clear c55
                                    try clear c55b0
                                    try clear c56
                                    try clear c56b0
                                    try clear c57
                                    try clear c57b0
                                    try clear p58
                                    try clear q58
                                    try clear p59
                                    try clear q59
                                    try clear hx59
                                    try clear hf59
                                    try clear c61
                                    try clear hcz24_0
                                    try clear hcz24_1
                                    try clear hcz24_2
                                    try clear hcz24_3
                                    try clear hcz24_4
                                    try clear hcz24_5
                                    try clear hcz24_6
                                    try clear hcz24_7
                                    try clear hcz25_0
                                    try clear hcz25_1
                                    try clear hcz25_2
                                    try clear hcz25_3
                                    try clear hcz25_4
                                    try clear hcz25_5
                                    try clear hcz25_6
                                    try clear hcz25_7
                                    try clear hcz33_0
                                    try clear hcz33_1
                                    try clear hcz33_2
                                    try clear hcz33_3
                                    try clear hcz33_4
                                    try clear hcz33_5
                                    try clear hcz33_6
                                    try clear hcz33_7
                                    try clear hcz35_0
                                    try clear hcz35_1
                                    try clear hcz35_2
                                    try clear hcz35_3
                                    try clear hcz35_4
                                    try clear hcz35_5
                                    try clear hcz35_6
                                    try clear hcz35_7
                                    try clear hcz36_0
                                    try clear hcz36_1
                                    try clear hcz36_2
                                    try clear hcz36_3
                                    try clear hcz36_4
                                    try clear hcz36_5
                                    try clear hcz36_6
                                    try clear hcz36_7
                                    try clear hcz53_0
                                    try clear hcz53_1
                                    try clear hcz53_2
                                    try clear hcz53_3
                                    try clear hcz53_4
                                    try clear hcz53_5
                                    try clear hcz53_6
                                    try clear hcz53_7
                                    try clear hcz54_0
                                    try clear hcz54_1
                                    try clear hcz54_2
                                    try clear hcz54_3
                                    try clear hcz54_4
                                    try clear hcz54_5
                                    try clear hcz54_6
                                    try clear hcz54_7
                                    try clear hcz62_0
                                    try clear hcz62_1
                                    try clear hcz62_2
                                    try clear hcz62_3
                                    try clear hcz62_4
                                    try clear hcz62_5
                                    try clear hcz62_6
                                    try clear hcz62_7
                                    try clear hfz24_0
                                    try clear hfz24_1
                                    try clear hfz24_2
                                    try clear hfz24_3
                                    try clear hfz24_4
                                    try clear hfz24_5
                                    try clear hfz24_6
                                    try clear hfz24_7
                                    try clear hfz25_0
                                    try clear hfz25_1
                                    try clear hfz25_2
                                    try clear hfz25_3
                                    try clear hfz25_4
                                    try clear hfz25_5
                                    try clear hfz25_6
                                    try clear hfz25_7
                                    try clear hfz33_0
                                    try clear hfz33_1
                                    try clear hfz33_2
                                    try clear hfz33_3
                                    try clear hfz33_4
                                    try clear hfz33_5
                                    try clear hfz33_6
                                    try clear hfz33_7
                                    try clear hfz35_0
                                    try clear hfz35_1
                                    try clear hfz35_2
                                    try clear hfz35_3
                                    try clear hfz35_4
                                    try clear hfz35_5
                                    try clear hfz35_6
                                    try clear hfz35_7
                                    try clear hfz36_0
                                    try clear hfz36_1
                                    try clear hfz36_2
                                    try clear hfz36_3
                                    try clear hfz36_4
                                    try clear hfz36_5
                                    try clear hfz36_6
                                    try clear hfz36_7
                                    try clear hfz53_0
                                    try clear hfz53_1
                                    try clear hfz53_2
                                    try clear hfz53_3
                                    try clear hfz53_4
                                    try clear hfz53_5
                                    try clear hfz53_6
                                    try clear hfz53_7
                                    try clear hfz54_0
                                    try clear hfz54_1
                                    try clear hfz54_2
                                    try clear hfz54_3
                                    try clear hfz54_4
                                    try clear hfz54_5
                                    try clear hfz54_6
                                    try clear hfz54_7
                                    try clear hfz62_0
                                    try clear hfz62_1
                                    try clear hfz62_2
                                    try clear hfz62_3
                                    try clear hfz62_4
                                    try clear hfz62_5
                                    try clear hfz62_6
                                    try clear hfz62_7
                                    try clear hx201_0
                                    try clear hx210_0
                                    try clear p1
                                    try clear p14
                                    try clear p2
                                    try clear p20
                                    try clear p201
                                    try clear p210
                                    try clear p29
                                    try clear p3
                                    try clear p30
                                    try clear p58
                                    try clear p59
                                    try clear p6
                                    try clear p9
                                    try clear q1
                                    try clear q14
                                    try clear q2
                                    try clear q20
                                    try clear q201
                                    try clear q210
                                    try clear q29
                                    try clear q3
                                    try clear q30
                                    try clear q58
                                    try clear q59
                                    try clear q9
                                    obtain ⟨x15_5, x197000_5, x197001_5, x197002_5, x197003_5, x197004_5, x197005_5, x197006_5, x197007_5, rfl, HA, HK5, HO_12, BK195, BK196, HB⟩ := hrel
                                    cases gk with
                                    | zero => exact absurd HA.out (by simp [gossamerref9_Parse.l3])
                                    | succ k5 =>
                                      have H := HA.out
                                      clear HA
                                      simp only [gossamerref9_Parse.l3] at H
                                      by_cases c64 : x15_5 < (t206.length : Int)
                                      · rw [if_pos c64] at H
                                        have c64b0 : decide (x15_5 < (t206.length : Int)) = true := decide_eq_true c64
                                        clear c64
                                        by_cases c65 : 0 ≤ x15_5
                                        · rw [if_pos c65] at H
                                          have c65b0 : decide (0 ≤ x15_5) = true := decide_eq_true c65
                                          clear c65
                                          obtain ⟨ji66, hji66⟩ : ∃ j_ : Int, (wrap64 ((wrap64 (8 - (t206.length : Int))) + x15_5)) = j_ := ⟨_, rfl⟩
                                          replace H : (if 0 ≤ (ji66) then (if (ji66) < 8 then (gossamerref9_Parse.l3 k5 t206 (wrap64 (x15_5 + 1)) (if (ji66) = 0 then IntKind.u16.wrap (rd t206 x15_5) else x197000_5) (if (ji66) = 1 then IntKind.u16.wrap (rd t206 x15_5) else x197001_5) (if (ji66) = 2 then IntKind.u16.wrap (rd t206 x15_5) else x197002_5) (if (ji66) = 3 then IntKind.u16.wrap (rd t206 x15_5) else x197003_5) (if (ji66) = 4 then IntKind.u16.wrap (rd t206 x15_5) else x197004_5) (if (ji66) = 5 then IntKind.u16.wrap (rd t206 x15_5) else x197005_5) (if (ji66) = 6 then IntKind.u16.wrap (rd t206 x15_5) else x197006_5) (if (ji66) = 7 then IntKind.u16.wrap (rd t206 x15_5) else x197007_5)) else (none)) else (none)) = some (r1, r2, r3, r4, r5, r6, r7, r8, r9) := by first | (rw [hji66] at H; exact H) | (simp only [hji66] at H ⊢; exact H)
                                          have hji66w : (IntKind.i64.wrap ((wrap64 (8 - (t206.length : Int))) + x15_5)) = ji66 := (i64_w _).trans hji66
                                          by_cases c67 : 0 ≤ (ji66)
                                          · rw [if_pos c67] at H
                                            have c67b0 : decide (0 ≤ (ji66)) = true := decide_eq_true c67
                                            clear c67
                                            by_cases c68 : (ji66) < 8
                                            · rw [if_pos c68] at H
                                              have c68b0 : decide ((ji66) < 8) = true := decide_eq_true c68
                                              clear c68
                                              have H' := Aside0.mk H
                                              clear H
                                              obtain ⟨Ao71, co71, eo71⟩ := Kd.R_slice HO_12.out
                                              subst eo71
                                              have p211 : 0 ≤ (x15_5 : Int) := of_decide_eq_true (by first | (with_reducible assumption) | assumption)
                                              have q211 : x15_5 < (t206.length : Int) := of_decide_eq_true (by first | (with_reducible assumption) | assumption)
                                              obtain ⟨ad211, e211, hx211_0⟩ := Kd.at_int (Kd.R_reads' HO_12.out).2.2 x15_5 p211 q211
                                              cases e211
                                              replace p211 := eq_true p211
                                              replace q211 := eq_true q211
                                              have p69 : 0 ≤ ((ji66) : Int) := of_decide_eq_true (by first | (with_reducible assumption) | assumption)
                                              have q69 : ((ji66) : Int) < (8 : Int) := of_decide_eq_true (by first | (with_reducible assumption) | assumption)
                                              replace p69 := eq_true p69
                                              replace q69 := eq_true q69
                                              have p70 : 0 ≤ ((ji66) : Int) := of_decide_eq_true (by first | (with_reducible assumption) | assumption)
                                              have q70 : ((ji66) : Int) < (8 : Int) := of_decide_eq_true (by first | (with_reducible assumption) | assumption)
                                              replace p70 := eq_true p70
                                              replace q70 := eq_true q70
                                              have hnb72 := NB196_195.out
                                              have hnc72 := NB195_196.out
                                              have hcz73_0 : wr.cell? ⟨gb196, 0, none⟩ = some (.int .u16 x197000_5) := (blk_cell BK196.out 0).trans rfl
                                              have hcz73_1 : wr.cell? ⟨gb196, 1, none⟩ = some (.int .u16 x197001_5) := (blk_cell BK196.out 1).trans rfl
                                              have hcz73_2 : wr.cell? ⟨gb196, 2, none⟩ = some (.int .u16 x197002_5) := (blk_cell BK196.out 2).trans rfl
                                              have hcz73_3 : wr.cell? ⟨gb196, 3, none⟩ = some (.int .u16 x197003_5) := (blk_cell BK196.out 3).trans rfl
                                              have hcz73_4 : wr.cell? ⟨gb196, 4, none⟩ = some (.int .u16 x197004_5) := (blk_cell BK196.out 4).trans rfl
                                              have hcz73_5 : wr.cell? ⟨gb196, 5, none⟩ = some (.int .u16 x197005_5) := (blk_cell BK196.out 5).trans rfl
                                              have hcz73_6 : wr.cell? ⟨gb196, 6, none⟩ = some (.int .u16 x197006_5) := (blk_cell BK196.out 6).trans rfl
                                              have hcz73_7 : wr.cell? ⟨gb196, 7, none⟩ = some (.int .u16 x197007_5) := (blk_cell BK196.out 7).trans rfl
                                              have hfz73_0 := blk_frozen BK196.out 0
                                              have hfz73_1 := blk_frozen BK196.out 1
                                              have hfz73_2 := blk_frozen BK196.out 2
                                              have hfz73_3 := blk_frozen BK196.out 3
                                              have hfz73_4 := blk_frozen BK196.out 4
                                              have hfz73_5 := blk_frozen BK196.out 5
                                              have hfz73_6 := blk_frozen BK196.out 6
                                              have hfz73_7 := blk_frozen BK196.out 7
                                              have hx70 : wr.cell? ⟨gb196, ((ji66) : Int).toNat, none⟩ = some (.int .u16 (rd ([x197000_5, x197001_5, x197002_5, x197003_5, x197004_5, x197005_5, x197006_5, x197007_5] : List Int) (ji66))) := arr_cell (Value.int .u16) 0 (xs := ([x197000_5, x197001_5, x197002_5, x197003_5, x197004_5, x197005_5, x197006_5, x197007_5] : List Int)) BK196.out ((ji66)) (of_eq_true p70) (of_eq_true q70)
                                              have hf70 := blk_frozen BK196.out ((ji66) : Int).toNat
                                              go_wp2
                                              go_roundg k5
                                              case measure => have := HK1.out; have := HJ3.out; have := HJ43.out; have := HK4.out; have := HK5.out; omega
                                              case rel => exact ⟨(wrap64 (x15_5 + 1)), ((if (ji66) = 0 then IntKind.u16.wrap (rd t206 x15_5) else x197000_5)), ((if (ji66) = 1 then IntKind.u16.wrap (rd t206 x15_5) else x197001_5)), ((if (ji66) = 2 then IntKind.u16.wrap (rd t206 x15_5) else x197002_5)), ((if (ji66) = 3 then IntKind.u16.wrap (rd t206 x15_5) else x197003_5)), ((if (ji66) = 4 then IntKind.u16.wrap (rd t206 x15_5) else x197004_5)), ((if (ji66) = 5 then IntKind.u16.wrap (rd t206 x15_5) else x197005_5)), ((if (ji66) = 6 then IntKind.u16.wrap (rd t206 x15_5) else x197006_5)), ((if (ji66) = 7 then IntKind.u16.wrap (rd t206 x15_5) else x197007_5)), (by first | rfl | (simp; done) | (simp [*]; done)), H', ⟨by have := HK1.out; have := HJ3.out; have := HJ43.out; have := HK4.out; have := HK5.out; omega⟩, ⟨by (with_reducible repeat (first | apply Kd.R_alloc | apply Kd.R_drewN | apply Kd.R_drew)); exact Kd.R_mono (Kd.R_far (p := ⟨gb196, ((ji66) : Int).toNat, none⟩) (Kd.R_types HO_12.out BK196.out (by decide)) (fun _ hk => hk.2) (.int .u16 (IntKind.u16.wrap (rd t206 x15_5)))) (fun _ hk => trivial)⟩, ⟨by (with_reducible repeat (first | refine blk_drewN ?_ _ | refine blk_drew ?_ | refine blk_alloc ?_ _)); refine blk_far ?_ NB195_196.out _; (with_reducible repeat (first | refine blk_drewN ?_ _ | refine blk_drew ?_ | refine blk_alloc ?_ _)); exact BK195.out⟩, ⟨by (with_reducible repeat (first | refine blk_drewN ?_ _ | refine blk_drew ?_ | refine blk_alloc ?_ _)); refine blk_put (cs := #[.int .u16 x197000_5, .int .u16 x197001_5, .int .u16 x197002_5, .int .u16 x197003_5, .int .u16 x197004_5, .int .u16 x197005_5, .int .u16 x197006_5, .int .u16 x197007_5]) ?_ (((ji66) : Int).toNat) _ (arr_set (Value.int .u16) ([x197000_5, x197001_5, x197002_5, x197003_5, x197004_5, x197005_5, x197006_5, x197007_5] : List Int) ((ji66)) (of_eq_true p70) (IntKind.u16.wrap (rd t206 x15_5))); (with_reducible repeat (first | refine blk_drewN ?_ _ | refine blk_drew ?_ | refine blk_alloc ?_ _)); exact BK196.out⟩, ⟨by repeat (first | (with_reducible first | exact HB.out | apply below_alloc | apply pw_below_drewN | apply below_drew1 | refine below_set ?_ GE195.out | refine below_set ?_ GE196.out) | exact HB.out)⟩⟩
                                            · rw [if_neg c68] at H
                                              exact absurd H (by simp)
                                          · rw [if_neg c67] at H
                                            exact absurd H (by simp)
                                        · rw [if_neg c65] at H
                                          exact absurd H (by simp)
                                      · rw [if_neg c64] at H
                                        have c64b0 : decide (x15_5 < (t206.length : Int)) = false := decide_eq_false c64
                                        clear c64
                                        simp only [Option.some.injEq, Prod.mk.injEq] at H
                                        obtain ⟨rfl, rfl, rfl, rfl, rfl, rfl, rfl, rfl, rfl⟩ := H
                                        obtain ⟨Ao74, co74, eo74⟩ := Kd.R_slice HO_12.out
                                        subst eo74
                                        have hnb75 := NB196_195.out
                                        have hnc75 := NB195_196.out
                                        have hcz76_0 : wr.cell? ⟨gb196, 0, none⟩ = some (.int .u16 x197000_5) := (blk_cell BK196.out 0).trans rfl
                                        have hcz76_1 : wr.cell? ⟨gb196, 1, none⟩ = some (.int .u16 x197001_5) := (blk_cell BK196.out 1).trans rfl
                                        have hcz76_2 : wr.cell? ⟨gb196, 2, none⟩ = some (.int .u16 x197002_5) := (blk_cell BK196.out 2).trans rfl
                                        have hcz76_3 : wr.cell? ⟨gb196, 3, none⟩ = some (.int .u16 x197003_5) := (blk_cell BK196.out 3).trans rfl
                                        have hcz76_4 : wr.cell? ⟨gb196, 4, none⟩ = some (.int .u16 x197004_5) := (blk_cell BK196.out 4).trans rfl
                                        have hcz76_5 : wr.cell? ⟨gb196, 5, none⟩ = some (.int .u16 x197005_5) := (blk_cell BK196.out 5).trans rfl
                                        have hcz76_6 : wr.cell? ⟨gb196, 6, none⟩ = some (.int .u16 x197006_5) := (blk_cell BK196.out 6).trans rfl
                                        have hcz76_7 : wr.cell? ⟨gb196, 7, none⟩ = some (.int .u16 x197007_5) := (blk_cell BK196.out 7).trans rfl
                                        have hfz76_0 := blk_frozen BK196.out 0
                                        have hfz76_1 := blk_frozen BK196.out 1
                                        have hfz76_2 := blk_frozen BK196.out 2
                                        have hfz76_3 := blk_frozen BK196.out 3
                                        have hfz76_4 := blk_frozen BK196.out 4
                                        have hfz76_5 := blk_frozen BK196.out 5
                                        have hfz76_6 := blk_frozen BK196.out 6
                                        have hfz76_7 := blk_frozen BK196.out 7
                                        have hcz77_0 : wr.cell? ⟨gb195, 0, none⟩ = some (.int .u16 0) := (blk_cell BK195.out 0).trans rfl
                                        have hcz77_1 : wr.cell? ⟨gb195, 1, none⟩ = some (.int .u16 0) := (blk_cell BK195.out 1).trans rfl
                                        have hcz77_2 : wr.cell? ⟨gb195, 2, none⟩ = some (.int .u16 0) := (blk_cell BK195.out 2).trans rfl
                                        have hcz77_3 : wr.cell? ⟨gb195, 3, none⟩ = some (.int .u16 0) := (blk_cell BK195.out 3).trans rfl
                                        have hcz77_4 : wr.cell? ⟨gb195, 4, none⟩ = some (.int .u16 0) := (blk_cell BK195.out 4).trans rfl
                                        have hcz77_5 : wr.cell? ⟨gb195, 5, none⟩ = some (.int .u16 0) := (blk_cell BK195.out 5).trans rfl
                                        have hcz77_6 : wr.cell? ⟨gb195, 6, none⟩ = some (.int .u16 0) := (blk_cell BK195.out 6).trans rfl
                                        have hcz77_7 : wr.cell? ⟨gb195, 7, none⟩ = some (.int .u16 0) := (blk_cell BK195.out 7).trans rfl
                                        have hfz77_0 := blk_frozen BK195.out 0
                                        have hfz77_1 := blk_frozen BK195.out 1
                                        have hfz77_2 := blk_frozen BK195.out 2
                                        have hfz77_3 := blk_frozen BK195.out 3
                                        have hfz77_4 := blk_frozen BK195.out 4
                                        have hfz77_5 := blk_frozen BK195.out 5
                                        have hfz77_6 := blk_frozen BK195.out 6
                                        have hfz77_7 := blk_frozen BK195.out 7
                                        go_wp2
                                        refine bodyPost_ret (results_ct rfl _ _ gb195 24 #[.int .u16 x197000_5, .int .u16 x197001_5, .int .u16 x197002_5, .int .u16 x197003_5, .int .u16 x197004_5, .int .u16 x197005_5, .int .u16 x197006_5, .int .u16 x197007_5] (0, 0) _ rfl (by (with_reducible repeat (first | refine blk_drewN ?_ _ | refine blk_drew ?_ | refine blk_alloc ?_ _)); refine blk_put (cs := #[.int .u16 x197000_5, .int .u16 x197001_5, .int .u16 x197002_5, .int .u16 x197003_5, .int .u16 x197004_5, .int .u16 x197005_5, .int .u16 x197006_5, .int .u16 0]) ?_ 7 _ rfl; (with_reducible repeat (first | refine blk_drewN ?_ _ | refine blk_drew ?_ | refine blk_alloc ?_ _)); refine blk_put (cs := #[.int .u16 x197000_5, .int .u16 x197001_5, .int .u16 x197002_5, .int .u16 x197003_5, .int .u16 x197004_5, .int .u16 x197005_5, .int .u16 0, .int .u16 0]) ?_ 6 _ rfl; (with_reducible repeat (first | refine blk_drewN ?_ _ | refine blk_drew ?_ | refine blk_alloc ?_ _)); refine blk_put (cs := #[.int .u16 x197000_5, .int .u16 x197001_5, .int .u16 x197002_5, .int .u16 x197003_5, .int .u16 x197004_5, .int .u16 0, .int .u16 0, .int .u16 0]) ?_ 5 _ rfl; (with_reducible repeat (first | refine blk_drewN ?_ _ | refine blk_drew ?_ | refine blk_alloc ?_ _)); refine blk_put (cs := #[.int .u16 x197000_5, .int .u16 x197001_5, .int .u16 x197002_5, .int .u16 x197003_5, .int .u16 0, .int .u16 0, .int .u16 0, .int .u16 0]) ?_ 4 _ rfl; (with_reducible repeat (first | refine blk_drewN ?_ _ | refine blk_drew ?_ | refine blk_alloc ?_ _)); refine blk_put (cs := #[.int .u16 x197000_5, .int .u16 x197001_5, .int .u16 x197002_5, .int .u16 0, .int .u16 0, .int .u16 0, .int .u16 0, .int .u16 0]) ?_ 3 _ rfl; (with_reducible repeat (first | refine blk_drewN ?_ _ | refine blk_drew ?_ | refine blk_alloc ?_ _)); refine blk_put (cs := #[.int .u16 x197000_5, .int .u16 x197001_5, .int .u16 0, .int .u16 0, .int .u16 0, .int .u16 0, .int .u16 0, .int .u16 0]) ?_ 2 _ rfl; (with_reducible repeat (first | refine blk_drewN ?_ _ | refine blk_drew ?_ | refine blk_alloc ?_ _)); refine blk_put (cs := #[.int .u16 x197000_5, .int .u16 0, .int .u16 0, .int .u16 0, .int .u16 0, .int .u16 0, .int .u16 0, .int .u16 0]) ?_ 1 _ rfl; (with_reducible repeat (first | refine blk_drewN ?_ _ | refine blk_drew ?_ | refine blk_alloc ?_ _)); refine blk_put (cs := #[.int .u16 0, .int .u16 0, .int .u16 0, .int .u16 0, .int .u16 0, .int .u16 0, .int .u16 0, .int .u16 0]) ?_ 0 _ rfl; (with_reducible repeat (first | refine blk_drewN ?_ _ | refine blk_drew ?_ | refine blk_alloc ?_ _)); exact BK195.out) Tryd.underlying24 rfl (by kernel_rfl)) rfl ?_
                                        exact ⟨by first | rfl | (simp [errW_none, errW_some] <;> rfl) | (simp only [← hji40]; first | rfl | (simp [errW_none, errW_some] <;> rfl)) | (simp [*, errW_none, errW_some] <;> rfl), by repeat (first | (with_reducible first | exact HB.out | apply below_alloc | apply pw_below_drewN | apply below_drew1 | refine below_set ?_ GE195.out | refine below_set ?_ GE196.out) | exact HB.out)⟩
                    · rw [if_neg c42] at H
                      exact absurd H (by simp)
                  · rw [if_neg c41] at H
                    exact absurd H (by simp)
                · rw [if_neg c38] at H
                  exact absurd H (by simp)
              · rw [if_neg c37] at H
                exact absurd H (by simp)

end Go.Proofs.YtcpfhnodbgojaaaDoor.PF
