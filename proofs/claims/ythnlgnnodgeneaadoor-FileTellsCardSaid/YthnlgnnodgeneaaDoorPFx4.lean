-- WRITTEN BY A PROGRAM OF THIS SESSION (wip/tools/xprint.py, over the kit's print.py).
import Derived.Test.YthnlgnnodgeneaaDoorPFx0
import Derived.Test.YthnlgnnodgeneaaDoorPFx2
import Derived.Test.YthnlgnnodgeneaaDoorPFx3
namespace Go.Proofs.YthnlgnnodgeneaaDoor.PF
open Go.RowKit Go.Proofs.YthnlgnnodgeneaaDoorW.PrintWords Go.Proofs.YthnlgnnodgeneaaDoorW.PrintLast Go.Proofs.YthnlgnnodgeneaaDoorW.PrintMore Go.Proofs.YthnlgnnodgeneaaDoorE
attribute [local go_sem] max2_int min2_int max_two min_two max_three min_three max_four min_four   -- for this text's walks alone
set_option linter.unusedVariables false
set_option linter.unusedSimpArgs false

/-! ### file_URL: function 5 (given) -/
/-- What stands in the builder at the end: each byte told. -/
def file_URL.tellL (k : Nat) : List UInt8 → List UInt8 → Option (List UInt8)
  | [], acc => some acc
  | c :: r, acc => (file_told.f k (c.toNat : Int)).bind fun t => if acc.length + t.size ≤ 140737488355328 then file_URL.tellL k r (acc ++ t.data.toList) else none
def file_URL.tell (k : Nat) (s : ByteArray) : Option ByteArray := if s.size < 9223372036854775807 then (file_URL.tellL k s.data.toList []).bind (fun l => some ⟨l.toArray⟩) else none
def file_URL.said (t : ByteArray) : Option ByteArray := some t
theorem file_URL.tellL_mono (k : Nat) : ∀ (s acc : List UInt8), LeO (file_URL.tellL k s acc) (file_URL.tellL (k + 1) s acc)
  | [], acc => LeO.refl _
  | c :: r, acc => LeO.bind (file_told.mono _ _) (fun t => LeO.ite (file_URL.tellL_mono k r _) (LeO.refl _))
theorem file_URL.tell_mono (s : ByteArray) (k : Nat) : LeO (file_URL.tell k s) (file_URL.tell (k + 1) s) := LeO.ite (LeO.bind (file_URL.tellL_mono k _ _) (fun _ => LeO.refl _)) (LeO.refl _)
theorem file_URL.tell_parts {k : Nat} {s t : ByteArray} (h : file_URL.tell k s = some t) : ∃ l : List UInt8, s.size < 9223372036854775807 ∧ file_URL.tellL k s.data.toList [] = some l ∧ t = ⟨l.toArray⟩ := by
  unfold file_URL.tell at h
  by_cases c : s.size < 9223372036854775807
  · rw [if_pos c] at h
    obtain ⟨l, hl, h⟩ := Option.bind_eq_some_iff.mp h
    exact ⟨l, c, hl, (Option.some.inj h).symm⟩
  · rw [if_neg c] at h; cases h
theorem file_URL.tellL_step {k j : Nat} {s : ByteArray} {acc l : List UInt8} (hj : j < s.size) (h : file_URL.tellL k (s.data.toList.drop j) acc = some l) :
    ∃ t, file_told.f k (bt s (j : Int)) = some t ∧ acc.length + t.size ≤ 140737488355328 ∧ file_URL.tellL k (s.data.toList.drop (j + 1)) (acc ++ t.data.toList) = some l := by
  have hl : j < s.data.toList.length := by simpa using hj
  rw [List.drop_eq_getElem_cons hl] at h
  unfold file_URL.tellL at h
  obtain ⟨t, ht, h⟩ := Option.bind_eq_some_iff.mp h
  by_cases c : acc.length + t.size ≤ 140737488355328
  · rw [if_pos c] at h
    refine ⟨t, ?_, c, h⟩
    rw [← ht]
    congr 1
    unfold bt
    rw [dif_pos (by simpa using hj)]
    rfl
  · rw [if_neg c] at h; cases h
def file_URL.l0 : Nat → List ByteArray → Int → Int → ByteArray → ByteArray → ByteArray → Int → ByteArray → Int → Int → Int → Int → Int → Int → Int → Int → Int → Int → Bool → List ByteArray → Bool → ByteArray → Bool → ByteArray → Option (ByteArray × ByteArray × ByteArray × Int × ByteArray × Int × Int × Int × Int × Int × Int × Int × Int × Int × Int × Bool × List ByteArray × Bool × ByteArray × Bool × ByteArray × Int)
  | 0, _, _, _, _, _, _, _, _, _, _, _, _, _, _, _, _, _, _, _, _, _, _, _, _ => none
  | k + 1, x16, x17, x18, x134000, x134001, x134002, x134003, x134004, x134005, x134006, x134007, x134008, x134009, x134010, x134011, x134012, x134013, x134014, x134015, x134016, x134017, x134018, x134019, x134020 => if x18 < x17 then (if 0 ≤ x18 then (if x18 < (x16.length : Int) then ((file_URL.tell k (rdOf ByteArray.empty x16 x18)).bind fun t138 => ((file_URL.said t138).bind fun t139 => (if x134016.length < 8796093022208 then (file_URL.l0 k x16 x17 (wrap64 (x18 + 1)) x134000 x134001 x134002 x134003 x134004 x134005 x134006 x134007 x134008 x134009 x134010 x134011 x134012 x134013 x134014 x134015 (x134016 ++ [t139]) x134017 x134018 x134019 x134020) else (none)))) else (none)) else (none)) else (some (x134000, x134001, x134002, x134003, x134004, x134005, x134006, x134007, x134008, x134009, x134010, x134011, x134012, x134013, x134014, x134015, x134016, x134017, x134018, x134019, x134020, 0))
def file_URL.f (k : Nat) (a0 : ByteArray) : Option (ByteArray × ByteArray × ByteArray × Int × ByteArray × Int × Int × Int × Int × Int × Int × Int × Int × Int × Int × Bool × List ByteArray × Bool × ByteArray × Bool × ByteArray × Int) := (file_Clean.f a0).bind fun t132 => (if t132 = true then ((file_apart.f a0).bind fun t134 => (file_URL.l0 k t134 (t134.length : Int) 0 (⟨#[102, 105, 108, 101]⟩ : ByteArray) (⟨#[]⟩ : ByteArray) (⟨#[]⟩ : ByteArray) 1 (⟨#[]⟩ : ByteArray) 0 0 0 0 0 0 0 0 0 (-1) false ([] : List ByteArray) false (⟨#[]⟩ : ByteArray) false (⟨#[]⟩ : ByteArray))) else (some ((⟨#[]⟩ : ByteArray), (⟨#[]⟩ : ByteArray), (⟨#[]⟩ : ByteArray), 0, (⟨#[]⟩ : ByteArray), 0, 0, 0, 0, 0, 0, 0, 0, 0, 0, false, ([] : List ByteArray), false, (⟨#[]⟩ : ByteArray), false, (⟨#[]⟩ : ByteArray), 2)))
theorem file_URL.mono_l : ∀ k, (∀ y0 y1 y2 y3 y4 y5 y6 y7 y8 y9 y10 y11 y12 y13 y14 y15 y16 y17 y18 y19 y20 y21 y22 y23, LeO (file_URL.l0 k y0 y1 y2 y3 y4 y5 y6 y7 y8 y9 y10 y11 y12 y13 y14 y15 y16 y17 y18 y19 y20 y21 y22 y23) (file_URL.l0 (k + 1) y0 y1 y2 y3 y4 y5 y6 y7 y8 y9 y10 y11 y12 y13 y14 y15 y16 y17 y18 y19 y20 y21 y22 y23))
  | 0 => fun _ _ _ _ _ _ _ _ _ _ _ _ _ _ _ _ _ _ _ _ _ _ _ _ r h => by simp [file_URL.l0] at h
  | k + 1 => by
    have ih0 := file_URL.mono_l k
    · intro y0 y1 y2 y3 y4 y5 y6 y7 y8 y9 y10 y11 y12 y13 y14 y15 y16 y17 y18 y19 y20 y21 y22 y23
      unfold file_URL.l0
      repeat' first
      | (with_reducible exact ih0 _ _ _ _ _ _ _ _ _ _ _ _ _ _ _ _ _ _ _ _ _ _ _ _)
      | (with_reducible exact file_URL.tell_mono _ _)
      | (with_reducible exact LeO.refl _)
      | (with_reducible exact LeO.none _)
      | (with_reducible refine LeO.ite ?_ ?_)
      | (with_reducible refine LeO.bind ?_ (fun _ => ?_))
      | exact ih0 _ _ _ _ _ _ _ _ _ _ _ _ _ _ _ _ _ _ _ _ _ _ _ _
      | exact LeO.none _
      | refine LeO.ite ?_ ?_
      | refine LeO.bind ?_ (fun _ => ?_)
theorem file_URL.mono : ∀ a0 k, LeO (file_URL.f k a0) (file_URL.f (k + 1) a0) := by
  intro a0 k
  have ih0 := file_URL.mono_l k
  unfold file_URL.f
  repeat' first
      | (with_reducible exact ih0 _ _ _ _ _ _ _ _ _ _ _ _ _ _ _ _ _ _ _ _ _ _ _ _)
      | (with_reducible exact file_URL.tell_mono _ _)
      | (with_reducible exact LeO.refl _)
      | (with_reducible exact LeO.none _)
      | (with_reducible refine LeO.ite ?_ ?_)
      | (with_reducible refine LeO.bind ?_ (fun _ => ?_))
      | exact ih0 _ _ _ _ _ _ _ _ _ _ _ _ _ _ _ _ _ _ _ _ _ _ _ _
      | exact LeO.none _
      | refine LeO.ite ?_ ?_
      | refine LeO.bind ?_ (fun _ => ?_)
set_option maxHeartbeats 8000000 in
set_option maxRecDepth 100000 in
theorem file_URL.calls (k : Nat) (a0 : ByteArray) (r1 : ByteArray) (r2 : ByteArray) (r3 : ByteArray) (r4 : Int) (r5 : ByteArray) (r6 : Int) (r7 : Int) (r8 : Int) (r9 : Int) (r10 : Int) (r11 : Int) (r12 : Int) (r13 : Int) (r14 : Int) (r15 : Int) (r16 : Bool) (r17 : List ByteArray) (r18 : Bool) (r19 : ByteArray) (r20 : Bool) (r21 : ByteArray) (r22 : Int) (w : World) (hE : EnvOK w) (h : file_URL.f k a0 = some (r1, r2, r3, r4, r5, r6, r7, r8, r9, r10, r11, r12, r13, r14, r15, r16, r17, r18, r19, r20, r21, r22)) :
    Calls Tryd.prog 5 #[.string a0] w fun e w' => ∃ v16_ : Value, e = .returned (.tuple #[.agg #[.string r1, .string r2, .string r3, .int .i64 r4, .string r5, .int .u32 r6, .int .u16 r7, .int .u16 r8, .int .u16 r9, .int .u16 r10, .int .u16 r11, .int .u16 r12, .int .u16 r13, .int .u16 r14, .int .i64 r15, .bool r16, v16_, .bool r18, .string r19, .bool r20, .string r21], .int .i64 r22]) ∧ Kd.R Kd.string 9 w' w.heap.size (fun _ => True) v16_ r17 ∧ Below w.heap.size w w' := by
  have hu30 := Tryd.underlying30
  have hu27 := Tryd.underlying27
  have HE := Aside0.mk hE
  clear hE
  have HB := Aside0.mk (Below.refl w.heap.size w)
  have H : ((file_Clean.f a0).bind fun t132 => (if t132 = true then ((file_apart.f a0).bind fun t134 => (file_URL.l0 k t134 (t134.length : Int) 0 (⟨#[102, 105, 108, 101]⟩ : ByteArray) (⟨#[]⟩ : ByteArray) (⟨#[]⟩ : ByteArray) 1 (⟨#[]⟩ : ByteArray) 0 0 0 0 0 0 0 0 0 (-1) false ([] : List ByteArray) false (⟨#[]⟩ : ByteArray) false (⟨#[]⟩ : ByteArray))) else (some ((⟨#[]⟩ : ByteArray), (⟨#[]⟩ : ByteArray), (⟨#[]⟩ : ByteArray), 0, (⟨#[]⟩ : ByteArray), 0, 0, 0, 0, 0, 0, 0, 0, 0, 0, false, ([] : List ByteArray), false, (⟨#[]⟩ : ByteArray), false, (⟨#[]⟩ : ByteArray), 2)))) = some (r1, r2, r3, r4, r5, r6, r7, r8, r9, r10, r11, r12, r13, r14, r15, r16, r17, r18, r19, r20, r21, r22) := h
  clear h
  replace H := Option.bind_eq_some_iff.mp H
  obtain ⟨t132, A20, H⟩ := H
  replace H : (if t132 = true then ((file_apart.f a0).bind fun t134 => (file_URL.l0 k t134 (t134.length : Int) 0 (⟨#[102, 105, 108, 101]⟩ : ByteArray) (⟨#[]⟩ : ByteArray) (⟨#[]⟩ : ByteArray) 1 (⟨#[]⟩ : ByteArray) 0 0 0 0 0 0 0 0 0 (-1) false ([] : List ByteArray) false (⟨#[]⟩ : ByteArray) false (⟨#[]⟩ : ByteArray))) else (some ((⟨#[]⟩ : ByteArray), (⟨#[]⟩ : ByteArray), (⟨#[]⟩ : ByteArray), 0, (⟨#[]⟩ : ByteArray), 0, 0, 0, 0, 0, 0, 0, 0, 0, 0, false, ([] : List ByteArray), false, (⟨#[]⟩ : ByteArray), false, (⟨#[]⟩ : ByteArray), 2))) = some (r1, r2, r3, r4, r5, r6, r7, r8, r9, r10, r11, r12, r13, r14, r15, r16, r17, r18, r19, r20, r21, r22) := H
  have A2 := Aside0.mk A20
  clear A20
  by_cases c3 : t132 = true
  · subst c3
    have H1 : ((file_apart.f a0).bind fun t134 => (file_URL.l0 k t134 (t134.length : Int) 0 (⟨#[102, 105, 108, 101]⟩ : ByteArray) (⟨#[]⟩ : ByteArray) (⟨#[]⟩ : ByteArray) 1 (⟨#[]⟩ : ByteArray) 0 0 0 0 0 0 0 0 0 (-1) false ([] : List ByteArray) false (⟨#[]⟩ : ByteArray) false (⟨#[]⟩ : ByteArray))) = some (r1, r2, r3, r4, r5, r6, r7, r8, r9, r10, r11, r12, r13, r14, r15, r16, r17, r18, r19, r20, r21, r22) := by rw [if_pos rfl] at H; exact H
    clear H
    have H := H1
    clear H1
    replace H := Option.bind_eq_some_iff.mp H
    obtain ⟨t134, A40, H⟩ := H
    replace H : (file_URL.l0 k t134 (t134.length : Int) 0 (⟨#[102, 105, 108, 101]⟩ : ByteArray) (⟨#[]⟩ : ByteArray) (⟨#[]⟩ : ByteArray) 1 (⟨#[]⟩ : ByteArray) 0 0 0 0 0 0 0 0 0 (-1) false ([] : List ByteArray) false (⟨#[]⟩ : ByteArray) false (⟨#[]⟩ : ByteArray)) = some (r1, r2, r3, r4, r5, r6, r7, r8, r9, r10, r11, r12, r13, r14, r15, r16, r17, r18, r19, r20, r21, r22) := H
    have A4 := Aside0.mk A40
    clear A40
    have H' := Aside0.mk H
    clear H
    go_enter Tryd.func5, Tryd.ntmps5
    go_wp2_with (first | ((with_reducible refine gate_dst (N := 2) rfl ?_); refine box_event ?hg (N := 2) ?hd (cs := #[.string (⟨#[]⟩ : ByteArray), .string (⟨#[]⟩ : ByteArray), .string (⟨#[]⟩ : ByteArray), .int .i64 0, .string (⟨#[]⟩ : ByteArray), .int .u32 0, .int .u16 0, .int .u16 0, .int .u16 0, .int .u16 0, .int .u16 0, .int .u16 0, .int .u16 0, .int .u16 0, .int .i64 0, .bool false, .slice none 0 0, .bool false, .string (⟨#[]⟩ : ByteArray), .bool false, .string (⟨#[]⟩ : ByteArray)]) (t := 30) ?hr ?_; (case hd => rfl); (case hg => rfl); (case hr => first | (go_simp; done) | (go_simp; rfl)); intro gb131 hg w5 hbox hb; have n0_ := Aside0.mk (below_step (by repeat (first | (with_reducible first | exact HB.out | apply below_alloc | apply pw_below_drewN | apply below_drew1) | exact HB.out)) hb); have n1_ := Aside0.mk (hbox); have n2_ := Aside0.mk ((by rw [hg]; exact (below_size (by repeat (first | (with_reducible first | exact HB.out | apply below_alloc | apply pw_below_drewN | apply below_drew1) | exact HB.out))) : w.heap.size ≤ gb131)); have n3_ := Aside0.mk ((by rw [hg]; exact (below_size (by repeat (first | (with_reducible first | exact HB.out | apply below_alloc | apply pw_below_drewN | apply below_drew1) | exact HB.out))) : w.heap.size ≤ gb131)); clear HB; have HB := n0_; have BK131 := n1_; have GW131 := n2_; have GE131 := n3_; clear n0_ n1_ n2_ n3_; clear hb hbox hg) | ((with_reducible refine gate_callee (f := 9) rfl ?_); refine goesL_ (some 10) rfl rfl Tryd.func9 (by kernel_rfl) rfl #[.string a0] rfl (by (try simp only [List.map_toArray, List.map_cons, List.map_nil]); first | done | rfl | (simp only [List.length_drop, List.length_take]; rfl)) ?_; (with_reducible refine (file_Clean.calls a0 true _ ?side1 A2.out).mono ?_); (case side1 => exact EnvOK.step HE.out (by repeat (first | (with_reducible first | exact HB.out | apply below_alloc | apply pw_below_drewN | apply below_drew1 | refine below_set ?_ GE131.out) | exact HB.out))); rintro e w6 ⟨rfl, hb⟩; refine ⟨_, rfl, ?_⟩; have n0_ := Aside0.mk (blk_below (g := gb131) (o := .cells #[.string (⟨#[]⟩ : ByteArray), .string (⟨#[]⟩ : ByteArray), .string (⟨#[]⟩ : ByteArray), .int .i64 0, .string (⟨#[]⟩ : ByteArray), .int .u32 0, .int .u16 0, .int .u16 0, .int .u16 0, .int .u16 0, .int .u16 0, .int .u16 0, .int .u16 0, .int .u16 0, .int .i64 0, .bool false, .slice none 0 0, .bool false, .string (⟨#[]⟩ : ByteArray), .bool false, .string (⟨#[]⟩ : ByteArray)] 30 (0, 0)) (by (with_reducible repeat (first | refine blk_drewN ?_ _ | refine blk_drew ?_ | refine blk_alloc ?_ _)); exact BK131.out) hb); have n1_ := Aside0.mk (below_step (by repeat (first | (with_reducible first | exact HB.out | apply below_alloc | apply pw_below_drewN | apply below_drew1 | refine below_set ?_ GE131.out) | exact HB.out)) hb); clear BK131; clear HB; have BK131 := n0_; have HB := n1_; clear n0_ n1_; (try clear hb); (try clear hb2); (try clear hk); (try clear hi)) | ((with_reducible refine gate_dst (N := 4) rfl ?_); refine box_event ?hg (N := 4) ?hd (cs := #[.string (⟨#[]⟩ : ByteArray), .string (⟨#[]⟩ : ByteArray), .string (⟨#[]⟩ : ByteArray), .int .i64 0, .string (⟨#[]⟩ : ByteArray), .int .u32 0, .int .u16 0, .int .u16 0, .int .u16 0, .int .u16 0, .int .u16 0, .int .u16 0, .int .u16 0, .int .u16 0, .int .i64 0, .bool false, .slice none 0 0, .bool false, .string (⟨#[]⟩ : ByteArray), .bool false, .string (⟨#[]⟩ : ByteArray)]) (t := 30) ?hr ?_; (case hd => rfl); (case hg => rfl); (case hr => first | (go_simp; done) | (go_simp; rfl)); intro gb133 hg w7 hbox hb; have n0_ := Aside0.mk (blk_below (g := gb131) (o := .cells #[.string (⟨#[]⟩ : ByteArray), .string (⟨#[]⟩ : ByteArray), .string (⟨#[]⟩ : ByteArray), .int .i64 0, .string (⟨#[]⟩ : ByteArray), .int .u32 0, .int .u16 0, .int .u16 0, .int .u16 0, .int .u16 0, .int .u16 0, .int .u16 0, .int .u16 0, .int .u16 0, .int .i64 0, .bool false, .slice none 0 0, .bool false, .string (⟨#[]⟩ : ByteArray), .bool false, .string (⟨#[]⟩ : ByteArray)] 30 (0, 0)) (by (with_reducible repeat (first | refine blk_drewN ?_ _ | refine blk_drew ?_ | refine blk_alloc ?_ _)); exact BK131.out) hb); have n1_ := Aside0.mk (below_step (by repeat (first | (with_reducible first | exact HB.out | apply below_alloc | apply pw_below_drewN | apply below_drew1 | refine below_set ?_ GE131.out) | exact HB.out)) hb); have n2_ := Aside0.mk (hbox); have n3_ := Aside0.mk ((by rw [hg]; exact (below_size (by repeat (first | (with_reducible first | exact HB.out | apply below_alloc | apply pw_below_drewN | apply below_drew1 | refine below_set ?_ GE131.out) | exact HB.out))) : w.heap.size ≤ gb133)); have n4_ := Aside0.mk ((by rw [hg]; exact (below_size (by repeat (first | (with_reducible first | exact HB.out | apply below_alloc | apply pw_below_drewN | apply below_drew1 | refine below_set ?_ GE131.out) | exact HB.out))) : w.heap.size ≤ gb133)); have n5_ := Aside0.mk ((by rw [hg]; exact Nat.ne_of_lt (blk_lt (g := gb131) (o := .cells #[.string (⟨#[]⟩ : ByteArray), .string (⟨#[]⟩ : ByteArray), .string (⟨#[]⟩ : ByteArray), .int .i64 0, .string (⟨#[]⟩ : ByteArray), .int .u32 0, .int .u16 0, .int .u16 0, .int .u16 0, .int .u16 0, .int .u16 0, .int .u16 0, .int .u16 0, .int .u16 0, .int .i64 0, .bool false, .slice none 0 0, .bool false, .string (⟨#[]⟩ : ByteArray), .bool false, .string (⟨#[]⟩ : ByteArray)] 30 (0, 0)) (by (with_reducible repeat (first | refine blk_drewN ?_ _ | refine blk_drew ?_ | refine blk_alloc ?_ _)); exact BK131.out)) : gb131 ≠ gb133)); have n6_ := Aside0.mk ((by rw [hg]; exact Nat.ne_of_gt (blk_lt (g := gb131) (o := .cells #[.string (⟨#[]⟩ : ByteArray), .string (⟨#[]⟩ : ByteArray), .string (⟨#[]⟩ : ByteArray), .int .i64 0, .string (⟨#[]⟩ : ByteArray), .int .u32 0, .int .u16 0, .int .u16 0, .int .u16 0, .int .u16 0, .int .u16 0, .int .u16 0, .int .u16 0, .int .u16 0, .int .i64 0, .bool false, .slice none 0 0, .bool false, .string (⟨#[]⟩ : ByteArray), .bool false, .string (⟨#[]⟩ : ByteArray)] 30 (0, 0)) (by (with_reducible repeat (first | refine blk_drewN ?_ _ | refine blk_drew ?_ | refine blk_alloc ?_ _)); exact BK131.out)) : gb133 ≠ gb131)); clear BK131; clear HB; have BK131 := n0_; have HB := n1_; have BK133 := n2_; have GW133 := n3_; have GE133 := n4_; have NB131_133 := n5_; have NB133_131 := n6_; clear n0_ n1_ n2_ n3_ n4_ n5_ n6_; clear hb hbox hg) | ((with_reducible refine gate_store (t := 30) (p := 4) rfl ?_); refine whole_event (t := 30) (p := 4) (v := ?vo_w8) (u := ?vu_w8) (g := gb133) (cs := #[.string (⟨#[102, 105, 108, 101]⟩ : ByteArray), .string (⟨#[]⟩ : ByteArray), .string (⟨#[]⟩ : ByteArray), .int .i64 1, .string (⟨#[]⟩ : ByteArray), .int .u32 0, .int .u16 0, .int .u16 0, .int .u16 0, .int .u16 0, .int .u16 0, .int .u16 0, .int .u16 0, .int .u16 0, .int .i64 (-1), .bool false, .slice none 0 0, .bool false, .string (⟨#[]⟩ : ByteArray), .bool false, .string (⟨#[]⟩ : ByteArray)]) ?hg ?ho ?hn ?hp ?hv ?hu BK133.out ?hs ?ht ?h1 ?_; (case ho => rfl); (case hg => rfl); (case hn => rfl); (case hp => rfl); (case hv => rfl); (case hu => rfl); (case hs => rfl); (case ht => kernel_rfl); (case h1 => rfl); intro w8 hbox hwk; have n0_ := Aside0.mk (blk_whole (k := gb131) (o := .cells #[.string (⟨#[]⟩ : ByteArray), .string (⟨#[]⟩ : ByteArray), .string (⟨#[]⟩ : ByteArray), .int .i64 0, .string (⟨#[]⟩ : ByteArray), .int .u32 0, .int .u16 0, .int .u16 0, .int .u16 0, .int .u16 0, .int .u16 0, .int .u16 0, .int .u16 0, .int .u16 0, .int .i64 0, .bool false, .slice none 0 0, .bool false, .string (⟨#[]⟩ : ByteArray), .bool false, .string (⟨#[]⟩ : ByteArray)] 30 (0, 0)) (by (with_reducible repeat (first | refine blk_drewN ?_ _ | refine blk_drew ?_ | refine blk_alloc ?_ _)); exact BK131.out) hwk NB131_133.out); have n1_ := Aside0.mk (hbox); have n2_ := Aside0.mk (hwk.below (by repeat (first | (with_reducible first | exact HB.out | apply below_alloc | apply pw_below_drewN | apply below_drew1 | refine below_set ?_ GE131.out | refine below_set ?_ GE133.out) | exact HB.out)) GE133.out); clear BK131; clear BK133; clear HB; have BK131 := n0_; have BK133 := n1_; have HB := n2_; clear n0_ n1_ n2_; clear hbox hwk) | ((with_reducible refine gate_callee (f := 13) rfl ?_); refine goesL_ (some 16) rfl rfl Tryd.func13 (by kernel_rfl) rfl #[.string a0] rfl (by (try simp only [List.map_toArray, List.map_cons, List.map_nil]); first | done | rfl | (simp only [List.length_drop, List.length_take]; rfl)) ?_; (with_reducible refine (file_apart.calls a0 t134 _ ?side1 A4.out).mono ?_); (case side1 => exact EnvOK.step HE.out (by repeat (first | (with_reducible first | exact HB.out | apply below_alloc | apply pw_below_drewN | apply below_drew1 | refine below_set ?_ GE131.out | refine below_set ?_ GE133.out) | exact HB.out))); rintro e w9 ⟨v135, rfl, ho0, hb⟩; refine ⟨_, rfl, ?_⟩; have n0_ := Aside0.mk (Kd.Q_lower ho0 (below_size (by repeat (first | (with_reducible first | exact HB.out | apply below_alloc | apply pw_below_drewN | apply below_drew1 | refine below_set ?_ GE131.out | refine below_set ?_ GE133.out) | exact HB.out)))); have n1_ := Aside0.mk (blk_below (g := gb131) (o := .cells #[.string (⟨#[]⟩ : ByteArray), .string (⟨#[]⟩ : ByteArray), .string (⟨#[]⟩ : ByteArray), .int .i64 0, .string (⟨#[]⟩ : ByteArray), .int .u32 0, .int .u16 0, .int .u16 0, .int .u16 0, .int .u16 0, .int .u16 0, .int .u16 0, .int .u16 0, .int .u16 0, .int .i64 0, .bool false, .slice none 0 0, .bool false, .string (⟨#[]⟩ : ByteArray), .bool false, .string (⟨#[]⟩ : ByteArray)] 30 (0, 0)) (by (with_reducible repeat (first | refine blk_drewN ?_ _ | refine blk_drew ?_ | refine blk_alloc ?_ _)); exact BK131.out) hb); have n2_ := Aside0.mk (blk_below (g := gb133) (o := .cells #[.string (⟨#[102, 105, 108, 101]⟩ : ByteArray), .string (⟨#[]⟩ : ByteArray), .string (⟨#[]⟩ : ByteArray), .int .i64 1, .string (⟨#[]⟩ : ByteArray), .int .u32 0, .int .u16 0, .int .u16 0, .int .u16 0, .int .u16 0, .int .u16 0, .int .u16 0, .int .u16 0, .int .u16 0, .int .i64 (-1), .bool false, .slice none 0 0, .bool false, .string (⟨#[]⟩ : ByteArray), .bool false, .string (⟨#[]⟩ : ByteArray)] 30 (0, 0)) (by (with_reducible repeat (first | refine blk_drewN ?_ _ | refine blk_drew ?_ | refine blk_alloc ?_ _)); exact BK133.out) hb); have n3_ := Aside0.mk (below_step (by repeat (first | (with_reducible first | exact HB.out | apply below_alloc | apply pw_below_drewN | apply below_drew1 | refine below_set ?_ GE131.out | refine below_set ?_ GE133.out) | exact HB.out)) hb); clear BK131; clear BK133; clear HB; have HO136 := n0_; have BK131 := n1_; have BK133 := n2_; have HB := n3_; clear n0_ n1_ n2_ n3_; (try clear hb); (try clear hb2); (try clear hk); (try clear hi); (try clear ho0); obtain ⟨Ao10, co10, eo10, _⟩ := Kd.Q_slice HO136.out; subst eo10))
    go_loopg [18] k (fun kq v18 w' => ∃ (x18_1 : Int) (x134016_1 : List ByteArray) (u134016 : Value), v18 = .int .i64 x18_1 ∧ Aside0 (file_URL.l0 kq t134 (t134.length : Int) x18_1 (⟨#[102, 105, 108, 101]⟩ : ByteArray) (⟨#[]⟩ : ByteArray) (⟨#[]⟩ : ByteArray) 1 (⟨#[]⟩ : ByteArray) 0 0 0 0 0 0 0 0 0 (-1) false x134016_1 false (⟨#[]⟩ : ByteArray) false (⟨#[]⟩ : ByteArray) = some (r1, r2, r3, r4, r5, r6, r7, r8, r9, r10, r11, r12, r13, r14, r15, r16, r17, r18, r19, r20, r21, r22)) ∧ Aside0 (kq ≤ k) ∧ Aside0 (Kd.Q Kd.string 9 w' w.heap.size (fun k_ => some k_ ≠ (u134016 : Value).ownBlock) (.slice Ao10 t134.length co10) t134) ∧ Aside0 (Kd.R Kd.string 9 w' w.heap.size (fun k_ => some k_ ≠ ((.slice Ao10 t134.length co10) : Value).ownBlock) u134016 x134016_1) ∧ Aside0 (w'.heap[gb131]? = some (.cells #[.string (⟨#[]⟩ : ByteArray), .string (⟨#[]⟩ : ByteArray), .string (⟨#[]⟩ : ByteArray), .int .i64 0, .string (⟨#[]⟩ : ByteArray), .int .u32 0, .int .u16 0, .int .u16 0, .int .u16 0, .int .u16 0, .int .u16 0, .int .u16 0, .int .u16 0, .int .u16 0, .int .i64 0, .bool false, (.slice none 0 0), .bool false, .string (⟨#[]⟩ : ByteArray), .bool false, .string (⟨#[]⟩ : ByteArray)] 30 (0, 0))) ∧ Aside0 (w'.heap[gb133]? = some (.cells #[.string (⟨#[102, 105, 108, 101]⟩ : ByteArray), .string (⟨#[]⟩ : ByteArray), .string (⟨#[]⟩ : ByteArray), .int .i64 1, .string (⟨#[]⟩ : ByteArray), .int .u32 0, .int .u16 0, .int .u16 0, .int .u16 0, .int .u16 0, .int .u16 0, .int .u16 0, .int .u16 0, .int .u16 0, .int .i64 (-1), .bool false, u134016, .bool false, .string (⟨#[]⟩ : ByteArray), .bool false, .string (⟨#[]⟩ : ByteArray)] 30 (0, 0))) ∧ Aside0 (Below w.heap.size w w'))
    case atStart => exact ⟨(0), (([] : List ByteArray)), (.slice none 0 0), (by first | rfl | (simp; done) | (simp [*]; done)), H', ⟨Nat.le_refl _⟩, ⟨by (with_reducible repeat (first | apply Kd.Q_alloc | apply Kd.Q_drewN | apply Kd.Q_drew)); exact Kd.Q_mono HO136.out (fun _ hk => (by simp [Value.ownBlock]))⟩, ⟨by first | exact Kd.R_nil _ _ _ _ _ | exact Kd.N_nil _ _ _ _ _ | exact Kd.V_nil _ _ _ _ _ | exact Kd.Q_nil _ _ _ _ _ | exact Kd.S_nil _ _ _ _ _⟩, ⟨by (with_reducible repeat (first | refine blk_drewN ?_ _ | refine blk_drew ?_ | refine blk_alloc ?_ _)); exact BK131.out⟩, ⟨by (with_reducible repeat (first | refine blk_drewN ?_ _ | refine blk_drew ?_ | refine blk_alloc ?_ _)); exact BK133.out⟩, ⟨by repeat (first | (with_reducible first | exact HB.out | apply below_alloc | apply pw_below_drewN | apply below_drew1 | refine below_set ?_ GE131.out | refine below_set ?_ GE133.out) | exact HB.out)⟩⟩
    case round =>
      clear H'
      try clear c1
      try clear p2
      try clear c3
      try clear c5
      try clear c9
      obtain ⟨x18_1, x134016_1, u134016, rfl, HA, HK1, HO_16, HO_134016, BK131, BK133, HB⟩ := hrel
      cases gk with
      | zero => exact absurd HA.out (by simp [file_URL.l0])
      | succ k1 =>
        have H := HA.out
        clear HA
        simp only [file_URL.l0] at H
        by_cases c11 : x18_1 < (t134.length : Int)
        · rw [if_pos c11] at H
          have c11b0 : decide (x18_1 < (t134.length : Int)) = true := decide_eq_true c11
          clear c11
          by_cases c12 : 0 ≤ x18_1
          · rw [if_pos c12] at H
            have c12b0 : decide (0 ≤ x18_1) = true := decide_eq_true c12
            clear c12
            by_cases c13 : x18_1 < (t134.length : Int)
            · rw [if_pos c13] at H
              have c13b0 : decide (x18_1 < (t134.length : Int)) = true := decide_eq_true c13
              clear c13
              replace H := Option.bind_eq_some_iff.mp H
              obtain ⟨t138, A140, H⟩ := H
              replace H : ((file_URL.said t138).bind fun t139 => (if x134016_1.length < 8796093022208 then (file_URL.l0 k1 t134 (t134.length : Int) (wrap64 (x18_1 + 1)) (⟨#[102, 105, 108, 101]⟩ : ByteArray) (⟨#[]⟩ : ByteArray) (⟨#[]⟩ : ByteArray) 1 (⟨#[]⟩ : ByteArray) 0 0 0 0 0 0 0 0 0 (-1) false (x134016_1 ++ [t139]) false (⟨#[]⟩ : ByteArray) false (⟨#[]⟩ : ByteArray)) else (none))) = some (r1, r2, r3, r4, r5, r6, r7, r8, r9, r10, r11, r12, r13, r14, r15, r16, r17, r18, r19, r20, r21, r22) := H
              have A14 := Aside0.mk A140
              clear A140
              replace H := Option.bind_eq_some_iff.mp H
              obtain ⟨t139, A150, H⟩ := H
              replace H : (if x134016_1.length < 8796093022208 then (file_URL.l0 k1 t134 (t134.length : Int) (wrap64 (x18_1 + 1)) (⟨#[102, 105, 108, 101]⟩ : ByteArray) (⟨#[]⟩ : ByteArray) (⟨#[]⟩ : ByteArray) 1 (⟨#[]⟩ : ByteArray) 0 0 0 0 0 0 0 0 0 (-1) false (x134016_1 ++ [t139]) false (⟨#[]⟩ : ByteArray) false (⟨#[]⟩ : ByteArray)) else (none)) = some (r1, r2, r3, r4, r5, r6, r7, r8, r9, r10, r11, r12, r13, r14, r15, r16, r17, r18, r19, r20, r21, r22) := H
              have A15 := Aside0.mk A150
              clear A150
              by_cases c16 : x134016_1.length < 8796093022208
              · rw [if_pos c16] at H
                have LMc16 := Aside0.mk c16
                clear c16
                obtain ⟨y140, hy140⟩ : ∃ y_ : List ByteArray, y_ = (x134016_1 ++ [t139]) := ⟨_, rfl⟩
                replace H : (file_URL.l0 k1 t134 (t134.length : Int) (wrap64 (x18_1 + 1)) (⟨#[102, 105, 108, 101]⟩ : ByteArray) (⟨#[]⟩ : ByteArray) (⟨#[]⟩ : ByteArray) 1 (⟨#[]⟩ : ByteArray) 0 0 0 0 0 0 0 0 0 (-1) false y140 false (⟨#[]⟩ : ByteArray) false (⟨#[]⟩ : ByteArray)) = some (r1, r2, r3, r4, r5, r6, r7, r8, r9, r10, r11, r12, r13, r14, r15, r16, r17, r18, r19, r20, r21, r22) := by first | (rw [hy140]; with_reducible exact H) | (have H2_ := (Option.bind_some _ _).symm.trans H; rw [hy140]; with_reducible exact H2_) | (have H2_ := (Option.bind_some _ _).symm.trans H; with_reducible exact H2_) | with_reducible exact H | (rw [hy140]; exact H) | exact H
                have Ny140 := Aside0.mk hy140
                clear hy140
                have H' := Aside0.mk H
                clear H
                have p137 : 0 ≤ (x18_1 : Int) := of_decide_eq_true (by first | (with_reducible assumption) | assumption)
                have q137 : x18_1 < (t134.length : Int) := of_decide_eq_true (by first | (with_reducible assumption) | assumption)
                obtain ⟨ad137, e137, hx137_0⟩ := Kd.at_string (Kd.Q_reads' HO_16.out).2.2 x18_1 p137 q137
                cases e137
                replace p137 := eq_true p137
                replace q137 := eq_true q137
                try go_wp2_with (first | ((with_reducible refine gate_dst (N := 7) rfl ?_); refine box_event ?hg (N := 7) ?hd (cs := #[.pointer none, .slice none 0 0]) (t := 44) ?hr ?_; (case hd => rfl); (case hg => rfl); (case hr => first | (go_simp; done) | (go_simp; rfl)); intro gbB hg w18 hbox hb; have gB := Aside0.mk ((by rw [hg]; exact (below_size (by repeat (first | (with_reducible first | exact HB.out | apply below_alloc | apply pw_below_drewN | apply below_drew1 | refine below_set ?_ GE131.out | refine below_set ?_ GE133.out) | exact HB.out)))) : w.heap.size ≤ gbB); have nB := Aside0.mk (YthnlgnnodgeneaaDoorB.fresh gB.out hbox); have n0_ := Aside0.mk (Kd.Q_below (by (with_reducible repeat (first | apply Kd.Q_alloc | apply Kd.Q_drewN | apply Kd.Q_drew)); exact HO_16.out) hb); have n1_ := Aside0.mk (Kd.R_below (by (with_reducible repeat (first | apply Kd.R_alloc | apply Kd.R_drewN | apply Kd.R_drew)); exact HO_134016.out) hb); have n2_ := Aside0.mk (blk_below (g := gb131) (o := .cells #[.string (⟨#[]⟩ : ByteArray), .string (⟨#[]⟩ : ByteArray), .string (⟨#[]⟩ : ByteArray), .int .i64 0, .string (⟨#[]⟩ : ByteArray), .int .u32 0, .int .u16 0, .int .u16 0, .int .u16 0, .int .u16 0, .int .u16 0, .int .u16 0, .int .u16 0, .int .u16 0, .int .i64 0, .bool false, .slice none 0 0, .bool false, .string (⟨#[]⟩ : ByteArray), .bool false, .string (⟨#[]⟩ : ByteArray)] 30 (0, 0)) (by (with_reducible repeat (first | refine blk_drewN ?_ _ | refine blk_drew ?_ | refine blk_alloc ?_ _)); exact BK131.out) hb); have n3_ := Aside0.mk (blk_below (g := gb133) (o := .cells #[.string (⟨#[102, 105, 108, 101]⟩ : ByteArray), .string (⟨#[]⟩ : ByteArray), .string (⟨#[]⟩ : ByteArray), .int .i64 1, .string (⟨#[]⟩ : ByteArray), .int .u32 0, .int .u16 0, .int .u16 0, .int .u16 0, .int .u16 0, .int .u16 0, .int .u16 0, .int .u16 0, .int .u16 0, .int .i64 (-1), .bool false, u134016, .bool false, .string (⟨#[]⟩ : ByteArray), .bool false, .string (⟨#[]⟩ : ByteArray)] 30 (0, 0)) (by (with_reducible repeat (first | refine blk_drewN ?_ _ | refine blk_drew ?_ | refine blk_alloc ?_ _)); exact BK133.out) hb); have n4_ := Aside0.mk (below_step (by repeat (first | (with_reducible first | exact HB.out | apply below_alloc | apply pw_below_drewN | apply below_drew1 | refine below_set ?_ GE131.out | refine below_set ?_ GE133.out) | exact HB.out)) hb); clear HO_16; clear HO_134016; clear BK131; clear BK133; clear HB; have HO_16 := n0_; have HO_134016 := n1_; have BK131 := n2_; have BK133 := n3_; have HB := n4_; clear n0_ n1_ n2_ n3_ n4_; (try clear hb); (try clear hbox); (try clear hg)))
                obtain ⟨tl, hsz, htl, htl2⟩ := file_URL.tell_parts A14.out
                subst htl2
                have h16 : t139 = ⟨tl.toArray⟩ := (Option.some.inj A15.out).symm
                subst h16
                have hszA := Aside0.mk hsz
                have htlA := Aside0.mk htl
                clear hsz htl
                go_loopg [24] (rdOf ByteArray.empty t134 x18_1).size (fun gi v24 w' => ∃ (x24_1 : Int) (j : Nat) (acc : List UInt8), v24 = .int .i64 x24_1 ∧ Aside0 (x24_1 = (j : Int)) ∧ Aside0 (j ≤ (rdOf ByteArray.empty t134 x18_1).size ∧ (rdOf ByteArray.empty t134 x18_1).size - j ≤ gi ∧ file_URL.tellL k1 ((rdOf ByteArray.empty t134 x18_1).data.toList.drop j) acc = some tl) ∧ Aside0 (YthnlgnnodgeneaaDoorB.Bld w.heap.size gbB acc w') ∧ Aside0 (Kd.Q Kd.string 9 w' w.heap.size (fun k_ => some k_ ≠ (u134016 : Value).ownBlock) (.slice (some ad137) t134.length co10) t134) ∧ Aside0 (Kd.R Kd.string 9 w' w.heap.size (fun k_ => some k_ ≠ ((.slice (some ad137) t134.length co10) : Value).ownBlock) u134016 x134016_1) ∧ Aside0 (w'.heap[gb131]? = some (.cells #[.string (⟨#[]⟩ : ByteArray), .string (⟨#[]⟩ : ByteArray), .string (⟨#[]⟩ : ByteArray), .int .i64 0, .string (⟨#[]⟩ : ByteArray), .int .u32 0, .int .u16 0, .int .u16 0, .int .u16 0, .int .u16 0, .int .u16 0, .int .u16 0, .int .u16 0, .int .u16 0, .int .i64 0, .bool false, (.slice none 0 0), .bool false, .string (⟨#[]⟩ : ByteArray), .bool false, .string (⟨#[]⟩ : ByteArray)] 30 (0, 0))) ∧ Aside0 (w'.heap[gb133]? = some (.cells #[.string (⟨#[102, 105, 108, 101]⟩ : ByteArray), .string (⟨#[]⟩ : ByteArray), .string (⟨#[]⟩ : ByteArray), .int .i64 1, .string (⟨#[]⟩ : ByteArray), .int .u32 0, .int .u16 0, .int .u16 0, .int .u16 0, .int .u16 0, .int .u16 0, .int .u16 0, .int .u16 0, .int .u16 0, .int .i64 (-1), .bool false, u134016, .bool false, .string (⟨#[]⟩ : ByteArray), .bool false, .string (⟨#[]⟩ : ByteArray)] 30 (0, 0))) ∧ Aside0 (Below w.heap.size w w'))
                case atStart => exact ⟨0, 0, [], rfl, ⟨rfl⟩, ⟨Nat.zero_le _, Nat.le_refl _, htlA.out⟩, ⟨by (with_reducible repeat (first | apply YthnlgnnodgeneaaDoorB.alloc | apply YthnlgnnodgeneaaDoorB.drewN | apply YthnlgnnodgeneaaDoorB.drew)); exact nB.out⟩, ⟨by (with_reducible repeat (first | apply Kd.Q_alloc | apply Kd.Q_drewN | apply Kd.Q_drew)); exact HO_16.out⟩, ⟨by (with_reducible repeat (first | apply Kd.R_alloc | apply Kd.R_drewN | apply Kd.R_drew)); exact HO_134016.out⟩, ⟨by (with_reducible repeat (first | refine blk_drewN ?_ _ | refine blk_drew ?_ | refine blk_alloc ?_ _)); exact BK131.out⟩, ⟨by (with_reducible repeat (first | refine blk_drewN ?_ _ | refine blk_drew ?_ | refine blk_alloc ?_ _)); exact BK133.out⟩, ⟨by repeat (first | (with_reducible first | exact HB.out | apply below_alloc | apply pw_below_drewN | apply below_drew1 | refine below_set ?_ GE131.out | refine below_set ?_ GE133.out) | exact HB.out)⟩⟩
                case round =>
                  clear nB HO_16 HO_134016 BK131 BK133 HB
                  obtain ⟨x24_1, j, acc, rfl, HX, HI, HBL, HO_16, HO_134016, BK131, BK133, HB⟩ := hrel
                  by_cases hj : j < (rdOf ByteArray.empty t134 x18_1).size
                  · obtain ⟨tt, ht, hacc, hrest⟩ := file_URL.tellL_step hj HI.out.2.2
                    have hj1 := HI.out.1
                    have hj2 := HI.out.2.1
                    rw [← HX.out] at ht
                    have HT := Aside0.mk ht
                    have HC := Aside0.mk hacc
                    have HR := Aside0.mk hrest
                    clear ht hacc hrest HI
                    have cj0 : decide (x24_1 < ((rdOf ByteArray.empty t134 x18_1).size : Int)) = true := decide_eq_true (by have := HX.out; omega)
                    have cj1 : decide (0 ≤ x24_1) = true := decide_eq_true (by have := HX.out; omega)
                    have p24 : 0 ≤ x24_1 := by have := HX.out; omega
                    have q24 : x24_1 < ((rdOf ByteArray.empty t134 x18_1).size : Int) := by have := HX.out; omega
                    have hx24 := bt_at (rdOf ByteArray.empty t134 x18_1) x24_1
                    replace p24 := eq_true p24
                    replace q24 := eq_true q24
                    have HJ := Aside0.mk (And.intro hj (And.intro hj1 hj2))
                    clear hj hj1 hj2
                    go_wp2_with (first | ((with_reducible refine gate_callee (f := 15) rfl ?_); refine goesL_ (some 30) rfl rfl Tryd.func15 (by kernel_rfl) rfl #[.int .u8 (bt (rdOf ByteArray.empty t134 x18_1) x24_1)] rfl (by (try simp only [List.map_toArray, List.map_cons, List.map_nil]); first | done | rfl | (simp only [List.length_drop, List.length_take]; rfl)) ?_; (with_reducible refine (file_told.calls k1 (bt (rdOf ByteArray.empty t134 x18_1) x24_1) tt _ HT.out).mono ?_); rintro e w28 ⟨rfl, hb⟩; refine ⟨_, rfl, ?_⟩; have nB := Aside0.mk (YthnlgnnodgeneaaDoorB.below (by (with_reducible repeat (first | apply YthnlgnnodgeneaaDoorB.alloc | apply YthnlgnnodgeneaaDoorB.drewN | apply YthnlgnnodgeneaaDoorB.drew)); exact HBL.out) hb); have n0_ := Aside0.mk (Kd.Q_below (by (with_reducible repeat (first | apply Kd.Q_alloc | apply Kd.Q_drewN | apply Kd.Q_drew)); exact HO_16.out) hb); have n1_ := Aside0.mk (Kd.R_below (by (with_reducible repeat (first | apply Kd.R_alloc | apply Kd.R_drewN | apply Kd.R_drew)); exact HO_134016.out) hb); have n2_ := Aside0.mk (blk_below (g := gb131) (o := .cells #[.string (⟨#[]⟩ : ByteArray), .string (⟨#[]⟩ : ByteArray), .string (⟨#[]⟩ : ByteArray), .int .i64 0, .string (⟨#[]⟩ : ByteArray), .int .u32 0, .int .u16 0, .int .u16 0, .int .u16 0, .int .u16 0, .int .u16 0, .int .u16 0, .int .u16 0, .int .u16 0, .int .i64 0, .bool false, .slice none 0 0, .bool false, .string (⟨#[]⟩ : ByteArray), .bool false, .string (⟨#[]⟩ : ByteArray)] 30 (0, 0)) (by (with_reducible repeat (first | refine blk_drewN ?_ _ | refine blk_drew ?_ | refine blk_alloc ?_ _)); exact BK131.out) hb); have n3_ := Aside0.mk (blk_below (g := gb133) (o := .cells #[.string (⟨#[102, 105, 108, 101]⟩ : ByteArray), .string (⟨#[]⟩ : ByteArray), .string (⟨#[]⟩ : ByteArray), .int .i64 1, .string (⟨#[]⟩ : ByteArray), .int .u32 0, .int .u16 0, .int .u16 0, .int .u16 0, .int .u16 0, .int .u16 0, .int .u16 0, .int .u16 0, .int .u16 0, .int .i64 (-1), .bool false, u134016, .bool false, .string (⟨#[]⟩ : ByteArray), .bool false, .string (⟨#[]⟩ : ByteArray)] 30 (0, 0)) (by (with_reducible repeat (first | refine blk_drewN ?_ _ | refine blk_drew ?_ | refine blk_alloc ?_ _)); exact BK133.out) hb); have n4_ := Aside0.mk (below_step (by repeat (first | (with_reducible first | exact HB.out | apply below_alloc | apply pw_below_drewN | apply below_drew1 | refine below_set ?_ GE131.out | refine below_set ?_ GE133.out) | exact HB.out)) hb); clear HO_16; clear HO_134016; clear BK131; clear BK133; clear HB; have HO_16 := n0_; have HO_134016 := n1_; have BK131 := n2_; have BK133 := n3_; have HB := n4_; clear n0_ n1_ n2_ n3_ n4_; clear HBL; have HBL := nB; clear nB; (try clear hb)) | ((with_reducible refine gate_callee (f := 14) rfl ?_); refine goesL_ (some 31) rfl rfl Tryd.func14 (by kernel_rfl) rfl #[.pointer (some ⟨gbB, 0, none⟩), .string tt] rfl (by (try simp only [List.map_toArray, List.map_cons, List.map_nil]); first | done | rfl | (simp only [List.length_drop, List.length_take]; rfl)) ?_; (refine (YthnlgnnodgeneaaDoorB.write w.heap.size gbB acc tt _ (by (with_reducible repeat (first | apply YthnlgnnodgeneaaDoorB.alloc | apply YthnlgnnodgeneaaDoorB.drewN | apply YthnlgnnodgeneaaDoorB.drew)); exact HBL.out) HC.out (below_size (by repeat (first | (with_reducible first | exact HB.out | apply below_alloc | apply pw_below_drewN | apply below_drew1 | refine below_set ?_ GE131.out | refine below_set ?_ GE133.out) | exact HB.out)))).mono ?_); rintro e w29 ⟨rfl, hBn, hb, hO⟩; refine ⟨_, rfl, ?_⟩; have nB := Aside0.mk hBn; have n0_ := Aside0.mk (YthnlgnnodgeneaaDoorB.Q_others (by (with_reducible repeat (first | apply Kd.Q_alloc | apply Kd.Q_drewN | apply Kd.Q_drew)); exact HO_16.out) (by (with_reducible repeat (first | apply YthnlgnnodgeneaaDoorB.alloc | apply YthnlgnnodgeneaaDoorB.drewN | apply YthnlgnnodgeneaaDoorB.drew)); exact HBL.out) hO (by decide)); have n1_ := Aside0.mk (YthnlgnnodgeneaaDoorB.R_others (by (with_reducible repeat (first | apply Kd.R_alloc | apply Kd.R_drewN | apply Kd.R_drew)); exact HO_134016.out) (by (with_reducible repeat (first | apply YthnlgnnodgeneaaDoorB.alloc | apply YthnlgnnodgeneaaDoorB.drewN | apply YthnlgnnodgeneaaDoorB.drew)); exact HBL.out) hO (by decide)); have n2_ := Aside0.mk (YthnlgnnodgeneaaDoorB.blk_others (by (with_reducible repeat (first | refine blk_drewN ?_ _ | refine blk_drew ?_ | refine blk_alloc ?_ _)); exact BK131.out) (by (with_reducible repeat (first | apply YthnlgnnodgeneaaDoorB.alloc | apply YthnlgnnodgeneaaDoorB.drewN | apply YthnlgnnodgeneaaDoorB.drew)); exact HBL.out) hO (by decide)); have n3_ := Aside0.mk (YthnlgnnodgeneaaDoorB.blk_others (by (with_reducible repeat (first | refine blk_drewN ?_ _ | refine blk_drew ?_ | refine blk_alloc ?_ _)); exact BK133.out) (by (with_reducible repeat (first | apply YthnlgnnodgeneaaDoorB.alloc | apply YthnlgnnodgeneaaDoorB.drewN | apply YthnlgnnodgeneaaDoorB.drew)); exact HBL.out) hO (by decide)); have n4_ := Aside0.mk (Below.trans (by repeat (first | (with_reducible first | exact HB.out | apply below_alloc | apply pw_below_drewN | apply below_drew1 | refine below_set ?_ GE131.out | refine below_set ?_ GE133.out) | exact HB.out)) hb); clear HO_16 HO_134016 BK131 BK133 HB; have HO_16 := n0_; have HO_134016 := n1_; have BK131 := n2_; have BK133 := n3_; have HB := n4_; clear n0_ n1_ n2_ n3_ n4_; clear HBL; have HBL := nB; clear nB; (try clear hb); (try clear hO); (try clear hBn)))
                    go_roundg ((rdOf ByteArray.empty t134 x18_1).size - (j + 1))
                    case measure => have := HJ.out.1; have := HJ.out.2.2; omega
                    case rel => exact ⟨wrap64 (x24_1 + 1), j + 1, acc ++ tt.data.toList, rfl, ⟨by have := HJ.out.1; have := hszA.out; have := HX.out; unfold wrap64; omega⟩, ⟨HJ.out.1, Nat.le_refl _, HR.out⟩, ⟨by (with_reducible repeat (first | apply YthnlgnnodgeneaaDoorB.alloc | apply YthnlgnnodgeneaaDoorB.drewN | apply YthnlgnnodgeneaaDoorB.drew)); exact HBL.out⟩, ⟨by (with_reducible repeat (first | apply Kd.Q_alloc | apply Kd.Q_drewN | apply Kd.Q_drew)); exact HO_16.out⟩, ⟨by (with_reducible repeat (first | apply Kd.R_alloc | apply Kd.R_drewN | apply Kd.R_drew)); exact HO_134016.out⟩, ⟨by (with_reducible repeat (first | refine blk_drewN ?_ _ | refine blk_drew ?_ | refine blk_alloc ?_ _)); exact BK131.out⟩, ⟨by (with_reducible repeat (first | refine blk_drewN ?_ _ | refine blk_drew ?_ | refine blk_alloc ?_ _)); exact BK133.out⟩, ⟨by repeat (first | (with_reducible first | exact HB.out | apply below_alloc | apply pw_below_drewN | apply below_drew1 | refine below_set ?_ GE131.out | refine below_set ?_ GE133.out) | exact HB.out)⟩⟩
                  · have HN := HI.out
                    have hje : j = (rdOf ByteArray.empty t134 x18_1).size := by omega
                    subst hje
                    have hacc : acc = tl := by have h3 := HN.2.2; rw [List.drop_eq_nil_of_le (by simp)] at h3; exact Option.some.inj h3
                    subst hacc
                    clear HN HI hj
                    have cj0 : decide (x24_1 < ((rdOf ByteArray.empty t134 x18_1).size : Int)) = false := decide_eq_false (by have := HX.out; omega)
                    have n0_ := Aside0.mk (Kd.Q_drew HO_16.out)
                    have n1_ := Aside0.mk (Kd.R_drew HO_134016.out)
                    have n2_ := Aside0.mk (blk_drew BK131.out)
                    have n3_ := Aside0.mk (blk_drew BK133.out)
                    have n4_ := Aside0.mk (below_drew1 HB.out)
                    clear HO_16
                    clear HO_134016
                    clear BK131
                    clear BK133
                    clear HB
                    have HO_16 := n0_
                    have HO_134016 := n1_
                    have BK131 := n2_
                    have BK133 := n3_
                    have HB := n4_
                    clear n0_ n1_ n2_ n3_ n4_
                    try go_wp2
                    have HBL1 := Aside0.mk (YthnlgnnodgeneaaDoorB.drew HBL.out)
                    clear HBL
                    have HBL := HBL1
                    clear HBL1
                    refine start_ (n := 7) (S := fun w' => w'.cell? ⟨gb133, 0, none⟩ = some (.string (⟨#[102, 105, 108, 101]⟩ : ByteArray)) ∧ w'.cell? ⟨gb133, 1, none⟩ = some (.string (⟨#[]⟩ : ByteArray)) ∧ w'.cell? ⟨gb133, 2, none⟩ = some (.string (⟨#[]⟩ : ByteArray)) ∧ w'.cell? ⟨gb133, 3, none⟩ = some (.int .i64 1) ∧ w'.cell? ⟨gb133, 4, none⟩ = some (.string (⟨#[]⟩ : ByteArray)) ∧ w'.cell? ⟨gb133, 5, none⟩ = some (.int .u32 0) ∧ w'.cell? ⟨gb133, 6, none⟩ = some (.int .u16 0) ∧ w'.cell? ⟨gb133, 7, none⟩ = some (.int .u16 0) ∧ w'.cell? ⟨gb133, 8, none⟩ = some (.int .u16 0) ∧ w'.cell? ⟨gb133, 9, none⟩ = some (.int .u16 0) ∧ w'.cell? ⟨gb133, 10, none⟩ = some (.int .u16 0) ∧ w'.cell? ⟨gb133, 11, none⟩ = some (.int .u16 0) ∧ w'.cell? ⟨gb133, 12, none⟩ = some (.int .u16 0) ∧ w'.cell? ⟨gb133, 13, none⟩ = some (.int .u16 0) ∧ w'.cell? ⟨gb133, 14, none⟩ = some (.int .i64 (-1)) ∧ w'.cell? ⟨gb133, 15, none⟩ = some (.bool false) ∧ w'.cell? ⟨gb133, 16, none⟩ = some (u134016) ∧ w'.cell? ⟨gb133, 17, none⟩ = some (.bool false) ∧ w'.cell? ⟨gb133, 18, none⟩ = some (.string (⟨#[]⟩ : ByteArray)) ∧ w'.cell? ⟨gb133, 19, none⟩ = some (.bool false) ∧ w'.cell? ⟨gb133, 20, none⟩ = some (.string (⟨#[]⟩ : ByteArray))) (ds := [6]) #[false, false, false, false, false, false, false] (by kernel_rfl) rfl rfl ⟨(blk_cell BK133.out 0).trans rfl, (blk_cell BK133.out 1).trans rfl, (blk_cell BK133.out 2).trans rfl, (blk_cell BK133.out 3).trans rfl, (blk_cell BK133.out 4).trans rfl, (blk_cell BK133.out 5).trans rfl, (blk_cell BK133.out 6).trans rfl, (blk_cell BK133.out 7).trans rfl, (blk_cell BK133.out 8).trans rfl, (blk_cell BK133.out 9).trans rfl, (blk_cell BK133.out 10).trans rfl, (blk_cell BK133.out 11).trans rfl, (blk_cell BK133.out 12).trans rfl, (blk_cell BK133.out 13).trans rfl, (blk_cell BK133.out 14).trans rfl, (blk_cell BK133.out 15).trans rfl, (blk_cell BK133.out 16).trans rfl, (blk_cell BK133.out 17).trans rfl, (blk_cell BK133.out 18).trans rfl, (blk_cell BK133.out 19).trans rfl, (blk_cell BK133.out 20).trans rfl⟩ (fun hHeld => ?_)
                    generalize wr.drew = w18 at HBL HO_16 HO_134016 BK131 BK133 HB hHeld ⊢
                    refine pure_ (i := 0) (N := some 33) (v := ?_) (a' := ?_) #[true, false, false, false, false, false, false] rfl rfl (by kernel_rfl) (fun _ _ _ h => h) (Or.inl ⟨by rfl, ?_⟩) ?_ ?_
                    rotate_left
                    · intro w'
                      go_simp
                      with_reducible rfl
                    rotate_left
                    · simp only [Act.put, List.setIfInBounds_toArray, List.set_cons_zero, List.set_cons_succ, i64_w, i32_w]
                      rfl
                    refine take_ (i := 1) (N := some 34) (v := ?_) (a' := ?_) #[true, true, false, false, false, false, false] rfl rfl (by kernel_rfl) (fun _ _ _ h => h) (Or.inl ⟨by rfl, ?_⟩) hHeld ?_ ?_
                    rotate_left
                    · rintro w' ⟨s0, s1, s2, s3, s4, s5, s6, s7, s8, s9, s10, s11, s12, s13, s14, s15, s16, s17, s18, s19, s20⟩
                      go_simp
                      with_reducible rfl
                    rotate_left
                    · simp only [Act.put, List.setIfInBounds_toArray, List.set_cons_zero, List.set_cons_succ, i64_w, i32_w]
                      rfl
                    refine one_ (i := 2) (N := some 35) #[true, true, true, false, false, false, false] rfl rfl (by kernel_rfl) (by decide) (fun K hK => ?_)
                    refine goes_ Tryd.func16 (by kernel_rfl) rfl #[.pointer (some ⟨gbB, 0, none⟩)] (by rfl) rfl rfl (by (try simp only [List.map_toArray, List.map_cons, List.map_nil]); first | done | rfl) ?_
                    refine (YthnlgnnodgeneaaDoorB.said w.heap.size gbB acc _ (by (with_reducible repeat (first | apply YthnlgnnodgeneaaDoorB.alloc | apply YthnlgnnodgeneaaDoorB.drewN | apply YthnlgnnodgeneaaDoorB.drew)); exact HBL.out) (below_size (by repeat (first | (with_reducible first | exact HB.out | apply below_alloc | apply pw_below_drewN | apply below_drew1 | refine below_set ?_ GE131.out | refine below_set ?_ GE133.out) | exact HB.out)))).mono ?_
                    rintro e w20 ⟨rfl, hBn, hb, hO⟩
                    refine ⟨_, rfl, ?_⟩
                    (have n0_ := Aside0.mk (YthnlgnnodgeneaaDoorB.Q_others (by (with_reducible repeat (first | apply Kd.Q_alloc | apply Kd.Q_drewN | apply Kd.Q_drew)); exact HO_16.out) (by (with_reducible repeat (first | apply YthnlgnnodgeneaaDoorB.alloc | apply YthnlgnnodgeneaaDoorB.drewN | apply YthnlgnnodgeneaaDoorB.drew)); exact HBL.out) hO (by decide)); have n1_ := Aside0.mk (YthnlgnnodgeneaaDoorB.R_others (by (with_reducible repeat (first | apply Kd.R_alloc | apply Kd.R_drewN | apply Kd.R_drew)); exact HO_134016.out) (by (with_reducible repeat (first | apply YthnlgnnodgeneaaDoorB.alloc | apply YthnlgnnodgeneaaDoorB.drewN | apply YthnlgnnodgeneaaDoorB.drew)); exact HBL.out) hO (by decide)); have n2_ := Aside0.mk (YthnlgnnodgeneaaDoorB.blk_others (by (with_reducible repeat (first | refine blk_drewN ?_ _ | refine blk_drew ?_ | refine blk_alloc ?_ _)); exact BK131.out) (by (with_reducible repeat (first | apply YthnlgnnodgeneaaDoorB.alloc | apply YthnlgnnodgeneaaDoorB.drewN | apply YthnlgnnodgeneaaDoorB.drew)); exact HBL.out) hO (by decide)); have n3_ := Aside0.mk (YthnlgnnodgeneaaDoorB.blk_others (by (with_reducible repeat (first | refine blk_drewN ?_ _ | refine blk_drew ?_ | refine blk_alloc ?_ _)); exact BK133.out) (by (with_reducible repeat (first | apply YthnlgnnodgeneaaDoorB.alloc | apply YthnlgnnodgeneaaDoorB.drewN | apply YthnlgnnodgeneaaDoorB.drew)); exact HBL.out) hO (by decide)); have n4_ := Aside0.mk (Below.trans (by repeat (first | (with_reducible first | exact HB.out | apply below_alloc | apply pw_below_drewN | apply below_drew1 | refine below_set ?_ GE131.out | refine below_set ?_ GE133.out) | exact HB.out)) hb); clear HO_16 HO_134016 BK131 BK133 HB; have HO_16 := n0_; have HO_134016 := n1_; have BK131 := n2_; have BK133 := n3_; have HB := n4_; clear n0_ n1_ n2_ n3_ n4_; clear HBL hBn hO)
                    (try clear hb)
                    (try clear hb2)
                    (try clear hk)
                    (try clear hi)
                    refine hK.out _ _ ⟨(blk_cell BK133.out 0).trans rfl, (blk_cell BK133.out 1).trans rfl, (blk_cell BK133.out 2).trans rfl, (blk_cell BK133.out 3).trans rfl, (blk_cell BK133.out 4).trans rfl, (blk_cell BK133.out 5).trans rfl, (blk_cell BK133.out 6).trans rfl, (blk_cell BK133.out 7).trans rfl, (blk_cell BK133.out 8).trans rfl, (blk_cell BK133.out 9).trans rfl, (blk_cell BK133.out 10).trans rfl, (blk_cell BK133.out 11).trans rfl, (blk_cell BK133.out 12).trans rfl, (blk_cell BK133.out 13).trans rfl, (blk_cell BK133.out 14).trans rfl, (blk_cell BK133.out 15).trans rfl, (blk_cell BK133.out 16).trans rfl, (blk_cell BK133.out 17).trans rfl, (blk_cell BK133.out 18).trans rfl, (blk_cell BK133.out 19).trans rfl, (blk_cell BK133.out 20).trans rfl⟩ (fun hHeld => ?_)
                    clear hK K
                    refine norm_ (a' := ?_) ?_ ?_
                    rotate_left
                    · show Act.put _ (some 35) _ = _
                      simp only [Act.put, List.setIfInBounds_toArray, List.set_cons_zero, List.set_cons_succ, i64_w, i32_w]
                      rfl
                    refine one_ (i := 3) (N := some 36) #[true, true, true, true, false, false, false] rfl rfl (by kernel_rfl) (by decide) (fun K hK => ?_)
                    refine value_ (w1 := ?_) (v := ?_) (by rfl) rfl ?_ ?_
                    rotate_left 2
                    · go_simp
                      constructor
                      · rfl
                      · rfl
                    refine hK.out _ _ ⟨(blk_cell (blk_alloc BK133.out _) 0).trans rfl, (blk_cell (blk_alloc BK133.out _) 1).trans rfl, (blk_cell (blk_alloc BK133.out _) 2).trans rfl, (blk_cell (blk_alloc BK133.out _) 3).trans rfl, (blk_cell (blk_alloc BK133.out _) 4).trans rfl, (blk_cell (blk_alloc BK133.out _) 5).trans rfl, (blk_cell (blk_alloc BK133.out _) 6).trans rfl, (blk_cell (blk_alloc BK133.out _) 7).trans rfl, (blk_cell (blk_alloc BK133.out _) 8).trans rfl, (blk_cell (blk_alloc BK133.out _) 9).trans rfl, (blk_cell (blk_alloc BK133.out _) 10).trans rfl, (blk_cell (blk_alloc BK133.out _) 11).trans rfl, (blk_cell (blk_alloc BK133.out _) 12).trans rfl, (blk_cell (blk_alloc BK133.out _) 13).trans rfl, (blk_cell (blk_alloc BK133.out _) 14).trans rfl, (blk_cell (blk_alloc BK133.out _) 15).trans rfl, (blk_cell (blk_alloc BK133.out _) 16).trans rfl, (blk_cell (blk_alloc BK133.out _) 17).trans rfl, (blk_cell (blk_alloc BK133.out _) 18).trans rfl, (blk_cell (blk_alloc BK133.out _) 19).trans rfl, (blk_cell (blk_alloc BK133.out _) 20).trans rfl⟩ (fun hHeld => ?_)
                    clear hK K
                    refine norm_ (a' := ?_) ?_ ?_
                    rotate_left
                    · show Act.put _ (some 36) _ = _
                      simp only [Act.put, List.setIfInBounds_toArray, List.set_cons_zero, List.set_cons_succ, i64_w, i32_w]
                      rfl
                    refine one_ (i := 4) (N := some 37) #[true, true, true, true, true, false, false] rfl rfl (by kernel_rfl) (by decide) (fun K hK => ?_)
                    refine Kd.R_append_step Kd.string (w0 := w) w.heap.size (by rfl) (.tmp 34) (.tmp 36) 28 9 (.string ⟨#[]⟩) 16 rfl Tryd.underlying28 info9 rfl (by decide) (by omega) u134016 x134016_1 (⟨acc.toArray⟩ : ByteArray) [.string (⟨acc.toArray⟩ : ByteArray)] (fun k_ => some k_ ≠ (.slice (some ad137) t134.length co10 : Value).ownBlock) (fun _ => False) rfl rfl ?aP (fun _ hk => hk.elim) ?aF ?aO ?aB ?aS ?aL ?_
                    (case aP => exact rfl)
                    (case aB => exact (by repeat (first | (with_reducible first | exact HB.out | apply below_alloc | apply pw_below_drewN | apply below_drew1 | refine below_set ?_ GE131.out | refine below_set ?_ GE133.out) | exact HB.out)))
                    (case aF => exact (fun k_ hk => Kd.fresh' (Kd.Q_lt (by (with_reducible repeat (first | apply Kd.Q_alloc | apply Kd.Q_drewN | apply Kd.Q_drew)); exact HO_16.out)) k_ hk))
                    (case aO => exact (by (with_reducible repeat (first | apply Kd.R_alloc | apply Kd.R_drewN | apply Kd.R_drew)); exact HO_134016.out))
                    (case aS => exact (below_size (by repeat (first | (with_reducible first | exact HB.out | apply below_alloc | apply pw_below_drewN | apply below_drew1 | refine below_set ?_ GE131.out | refine below_set ?_ GE133.out) | exact HB.out))))
                    (case aL => have := LMc16.out; omega)
                    intro v141 w20 ho hb hg hat
                    rw [← Ny140.out] at ho
                    have n0_ := Aside0.mk (Kd.Q_after (ok := (fun _ => True)) (by (with_reducible repeat (first | apply Kd.Q_alloc | apply Kd.Q_drewN | apply Kd.Q_drew)); exact Kd.Q_mono HO_16.out (fun _ hk => ⟨trivial, hk⟩)) hg hat)
                    have n1_ := Aside0.mk (blk_grown (g := gb131) (o := .cells #[.string (⟨#[]⟩ : ByteArray), .string (⟨#[]⟩ : ByteArray), .string (⟨#[]⟩ : ByteArray), .int .i64 0, .string (⟨#[]⟩ : ByteArray), .int .u32 0, .int .u16 0, .int .u16 0, .int .u16 0, .int .u16 0, .int .u16 0, .int .u16 0, .int .u16 0, .int .u16 0, .int .i64 0, .bool false, .slice none 0 0, .bool false, .string (⟨#[]⟩ : ByteArray), .bool false, .string (⟨#[]⟩ : ByteArray)] 30 (0, 0)) (by (with_reducible repeat (first | refine blk_drewN ?_ _ | refine blk_drew ?_ | refine blk_alloc ?_ _)); exact BK131.out) hg (Kd.R_ne HO_134016.out BK131.out (by decide)))
                    have n2_ := Aside0.mk (blk_grown (g := gb133) (o := .cells #[.string (⟨#[102, 105, 108, 101]⟩ : ByteArray), .string (⟨#[]⟩ : ByteArray), .string (⟨#[]⟩ : ByteArray), .int .i64 1, .string (⟨#[]⟩ : ByteArray), .int .u32 0, .int .u16 0, .int .u16 0, .int .u16 0, .int .u16 0, .int .u16 0, .int .u16 0, .int .u16 0, .int .u16 0, .int .i64 (-1), .bool false, u134016, .bool false, .string (⟨#[]⟩ : ByteArray), .bool false, .string (⟨#[]⟩ : ByteArray)] 30 (0, 0)) (by (with_reducible repeat (first | refine blk_drewN ?_ _ | refine blk_drew ?_ | refine blk_alloc ?_ _)); exact BK133.out) hg (Kd.R_ne HO_134016.out BK133.out (by decide)))
                    have n3_ := Aside0.mk (hb)
                    have n4_ := Aside0.mk (ho)
                    clear HO_16
                    clear BK131
                    clear BK133
                    clear HB
                    clear HO_134016
                    have HO_16 := n0_
                    have BK131 := n1_
                    have BK133 := n2_
                    have HB := n3_
                    have HO142 := n4_
                    clear n0_ n1_ n2_ n3_ n4_
                    clear ho hb hg hat
                    obtain ⟨Ao21, co21, eo21⟩ := Kd.R_slice HO142.out
                    (first | subst eo21 | (injection eo21 with f1_ f2_ f3_; have f4_ := f1_.symm; have f5_ := f3_.symm; clear f1_ f2_ f3_; subst f4_; subst f5_))
                    refine hK.out _ _ ⟨(blk_cell BK133.out 0).trans rfl, (blk_cell BK133.out 1).trans rfl, (blk_cell BK133.out 2).trans rfl, (blk_cell BK133.out 3).trans rfl, (blk_cell BK133.out 4).trans rfl, (blk_cell BK133.out 5).trans rfl, (blk_cell BK133.out 6).trans rfl, (blk_cell BK133.out 7).trans rfl, (blk_cell BK133.out 8).trans rfl, (blk_cell BK133.out 9).trans rfl, (blk_cell BK133.out 10).trans rfl, (blk_cell BK133.out 11).trans rfl, (blk_cell BK133.out 12).trans rfl, (blk_cell BK133.out 13).trans rfl, (blk_cell BK133.out 14).trans rfl, (blk_cell BK133.out 15).trans rfl, (blk_cell BK133.out 16).trans rfl, (blk_cell BK133.out 17).trans rfl, (blk_cell BK133.out 18).trans rfl, (blk_cell BK133.out 19).trans rfl, (blk_cell BK133.out 20).trans rfl⟩ (fun hHeld => ?_)
                    clear hK K
                    refine norm_ (a' := ?_) ?_ ?_
                    rotate_left
                    · show Act.put _ (some 37) _ = _
                      simp only [Act.put, List.setIfInBounds_toArray, List.set_cons_zero, List.set_cons_succ, i64_w, i32_w]
                      rfl
                    refine pure_ (i := 5) (N := some 38) (v := ?_) (a' := ?_) #[true, true, true, true, true, true, false] rfl rfl (by kernel_rfl) (fun _ _ _ h => h) (Or.inl ⟨by rfl, ?_⟩) ?_ ?_
                    rotate_left
                    · intro w'
                      go_simp
                      with_reducible rfl
                    rotate_left
                    · simp only [Act.put, List.setIfInBounds_toArray, List.set_cons_zero, List.set_cons_succ, i64_w, i32_w]
                      rfl
                    refine last_ (i := 6) (N := none) #[true, true, true, true, true, true, true] rfl rfl (by kernel_rfl) (by decide) (fun K hK => ?_)
                    have hs22 : w20.cell? ⟨gb133, 16, none⟩ = some (u134016) := (blk_cell BK133.out 16).trans rfl
                    have hfs22 := blk_frozen BK133.out 16
                    have hns22_0 := NB131_133.out
                    have hms22_0 := NB133_131.out
                    refine skip_ (w1 := ?_) (by rfl) rfl ?_ ?_
                    rotate_left
                    · go_simp
                      rfl
                    refine hK.out _ _ ?_
                    clear hK K
                    refine done_ (by kernel_rfl) ?_
                    try go_wp2
                    go_roundg k1
                    case measure => have := HK1.out; omega
                    case rel => exact ⟨(wrap64 (x18_1 + 1)), (y140), (.slice Ao21 y140.length co21), (by first | rfl | (simp; done) | (simp [*]; done)), H', ⟨by have := HK1.out; omega⟩, ⟨by (with_reducible repeat (first | apply Kd.Q_alloc | apply Kd.Q_drewN | apply Kd.Q_drew)); exact Kd.Q_mono (Kd.Q_far (p := ⟨gb133, 16, none⟩) (Kd.Q_types HO_16.out BK133.out (by decide)) (fun _ hk => hk.2) (.slice Ao21 y140.length co21)) (fun _ hk => hk.1.2)⟩, ⟨by (with_reducible repeat (first | apply Kd.R_alloc | apply Kd.R_drewN | apply Kd.R_drew)); exact Kd.R_mono (Kd.R_far (p := ⟨gb133, 16, none⟩) (Kd.R_types HO142.out BK133.out (by decide)) (fun _ hk => hk.2) (.slice Ao21 y140.length co21)) (fun _ hk => hk.1)⟩, ⟨by (with_reducible repeat (first | refine blk_drewN ?_ _ | refine blk_drew ?_ | refine blk_alloc ?_ _)); refine blk_far ?_ NB131_133.out _; (with_reducible repeat (first | refine blk_drewN ?_ _ | refine blk_drew ?_ | refine blk_alloc ?_ _)); exact BK131.out⟩, ⟨by (with_reducible repeat (first | refine blk_drewN ?_ _ | refine blk_drew ?_ | refine blk_alloc ?_ _)); refine blk_put (cs := #[.string (⟨#[102, 105, 108, 101]⟩ : ByteArray), .string (⟨#[]⟩ : ByteArray), .string (⟨#[]⟩ : ByteArray), .int .i64 1, .string (⟨#[]⟩ : ByteArray), .int .u32 0, .int .u16 0, .int .u16 0, .int .u16 0, .int .u16 0, .int .u16 0, .int .u16 0, .int .u16 0, .int .u16 0, .int .i64 (-1), .bool false, u134016, .bool false, .string (⟨#[]⟩ : ByteArray), .bool false, .string (⟨#[]⟩ : ByteArray)]) ?_ 16 _ rfl; (with_reducible repeat (first | refine blk_drewN ?_ _ | refine blk_drew ?_ | refine blk_alloc ?_ _)); exact BK133.out⟩, ⟨by repeat (first | (with_reducible first | exact HB.out | apply below_alloc | apply pw_below_drewN | apply below_drew1 | refine below_set ?_ GE131.out | refine below_set ?_ GE133.out) | exact HB.out)⟩⟩
              · rw [if_neg c16] at H
                exact absurd H (by simp)
            · rw [if_neg c13] at H
              exact absurd H (by simp)
          · rw [if_neg c12] at H
            exact absurd H (by simp)
        · rw [if_neg c11] at H
          have c11b0 : decide (x18_1 < (t134.length : Int)) = false := decide_eq_false c11
          clear c11
          simp only [Option.some.injEq, Prod.mk.injEq] at H
          obtain ⟨rfl, rfl, rfl, rfl, rfl, rfl, rfl, rfl, rfl, rfl, rfl, rfl, rfl, rfl, rfl, rfl, rfl, rfl, rfl, rfl, rfl, rfl⟩ := H
          go_wp2_with (first | ((with_reducible refine gate_load (t := 30) (p := 4) (N := 40) rfl rfl ?_); refine load_event (t := 30) (p := 4) (g := gb133) (T := 30) (cs := #[.string (⟨#[102, 105, 108, 101]⟩ : ByteArray), .string (⟨#[]⟩ : ByteArray), .string (⟨#[]⟩ : ByteArray), .int .i64 1, .string (⟨#[]⟩ : ByteArray), .int .u32 0, .int .u16 0, .int .u16 0, .int .u16 0, .int .u16 0, .int .u16 0, .int .u16 0, .int .u16 0, .int .u16 0, .int .i64 (-1), .bool false, u134016, .bool false, .string (⟨#[]⟩ : ByteArray), .bool false, .string (⟨#[]⟩ : ByteArray)]) ?hg ?ho ?hp ?hb Tryd.underlying30 rfl ?hi ?_; (case ho => rfl); (case hg => rfl); (case hp => rfl); (case hb => exact (by (with_reducible repeat (first | refine blk_drewN ?_ _ | refine blk_drew ?_ | refine blk_alloc ?_ _)); exact BK133.out)); (case hi => kernel_rfl); obtain ⟨Ao23, co23, eo23⟩ := Kd.R_slice HO_134016.out; subst eo23) | ((with_reducible refine gate_store (t := 30) (p := 2) rfl ?_); refine whole_event (t := 30) (p := 2) (v := ?vo_w24) (u := ?vu_w24) (g := gb131) (cs := #[.string (⟨#[102, 105, 108, 101]⟩ : ByteArray), .string (⟨#[]⟩ : ByteArray), .string (⟨#[]⟩ : ByteArray), .int .i64 1, .string (⟨#[]⟩ : ByteArray), .int .u32 0, .int .u16 0, .int .u16 0, .int .u16 0, .int .u16 0, .int .u16 0, .int .u16 0, .int .u16 0, .int .u16 0, .int .i64 (-1), .bool false, .slice Ao23 x134016_1.length co23, .bool false, .string (⟨#[]⟩ : ByteArray), .bool false, .string (⟨#[]⟩ : ByteArray)]) ?hg ?ho ?hn ?hp ?hv ?hu BK131.out ?hs ?ht ?h1 ?_; (case ho => rfl); (case hg => rfl); (case hn => rfl); (case hp => rfl); (case hv => rfl); (case hu => rfl); (case hs => rfl); (case ht => kernel_rfl); (case h1 => rfl); intro w24 hbox hwk; have n0_ := Aside0.mk (Kd.Q_mono (Kd.Q_step (Kd.Q_types (by (with_reducible repeat (first | apply Kd.Q_alloc | apply Kd.Q_drewN | apply Kd.Q_drew)); exact HO_16.out) BK131.out (by decide)) (fun _ hk _ => hwk.2 _ hk.2)) (fun _ hk => hk.1)); have n1_ := Aside0.mk (Kd.R_mono (Kd.R_step (Kd.R_types (by (with_reducible repeat (first | apply Kd.R_alloc | apply Kd.R_drewN | apply Kd.R_drew)); exact HO_134016.out) BK131.out (by decide)) (fun _ hk _ => hwk.2 _ hk.2)) (fun _ hk => hk.1)); have n2_ := Aside0.mk (blk_whole (k := gb133) (o := .cells #[.string (⟨#[102, 105, 108, 101]⟩ : ByteArray), .string (⟨#[]⟩ : ByteArray), .string (⟨#[]⟩ : ByteArray), .int .i64 1, .string (⟨#[]⟩ : ByteArray), .int .u32 0, .int .u16 0, .int .u16 0, .int .u16 0, .int .u16 0, .int .u16 0, .int .u16 0, .int .u16 0, .int .u16 0, .int .i64 (-1), .bool false, .slice Ao23 x134016_1.length co23, .bool false, .string (⟨#[]⟩ : ByteArray), .bool false, .string (⟨#[]⟩ : ByteArray)] 30 (0, 0)) (by (with_reducible repeat (first | refine blk_drewN ?_ _ | refine blk_drew ?_ | refine blk_alloc ?_ _)); exact BK133.out) hwk NB133_131.out); have n3_ := Aside0.mk (hbox); have n4_ := Aside0.mk (hwk.below (by repeat (first | (with_reducible first | exact HB.out | apply below_alloc | apply pw_below_drewN | apply below_drew1 | refine below_set ?_ GE131.out | refine below_set ?_ GE133.out) | exact HB.out)) GE131.out); clear HO_16; clear HO_134016; clear BK133; clear BK131; clear HB; have HO_16 := n0_; have HO_134016 := n1_; have BK133 := n2_; have BK131 := n3_; have HB := n4_; clear n0_ n1_ n2_ n3_ n4_; clear hbox hwk))
          refine bodyPost_ret (results_ct rfl _ _ gb131 30 #[.string (⟨#[102, 105, 108, 101]⟩ : ByteArray), .string (⟨#[]⟩ : ByteArray), .string (⟨#[]⟩ : ByteArray), .int .i64 1, .string (⟨#[]⟩ : ByteArray), .int .u32 0, .int .u16 0, .int .u16 0, .int .u16 0, .int .u16 0, .int .u16 0, .int .u16 0, .int .u16 0, .int .u16 0, .int .i64 (-1), .bool false, .slice Ao23 x134016_1.length co23, .bool false, .string (⟨#[]⟩ : ByteArray), .bool false, .string (⟨#[]⟩ : ByteArray)] (0, 0) _ rfl (by (with_reducible repeat (first | refine blk_drewN ?_ _ | refine blk_drew ?_ | refine blk_alloc ?_ _)); exact BK131.out) Tryd.underlying30 rfl (by kernel_rfl)) rfl ?_
          exact ⟨_, by first | rfl | (simp [errW_none, errW_some] <;> rfl) | (simp [*, errW_none, errW_some] <;> rfl), by (with_reducible repeat (first | apply Kd.R_alloc | apply Kd.R_drewN | apply Kd.R_drew)); exact Kd.R_mono HO_134016.out (fun _ hk => trivial), by repeat (first | (with_reducible first | exact HB.out | apply below_alloc | apply pw_below_drewN | apply below_drew1 | refine below_set ?_ GE131.out | refine below_set ?_ GE133.out) | exact HB.out)⟩
  · replace c3 := Bool.eq_false_iff.mpr c3
    subst c3
    have H1 : (some ((⟨#[]⟩ : ByteArray), (⟨#[]⟩ : ByteArray), (⟨#[]⟩ : ByteArray), 0, (⟨#[]⟩ : ByteArray), 0, 0, 0, 0, 0, 0, 0, 0, 0, 0, false, ([] : List ByteArray), false, (⟨#[]⟩ : ByteArray), false, (⟨#[]⟩ : ByteArray), 2)) = some (r1, r2, r3, r4, r5, r6, r7, r8, r9, r10, r11, r12, r13, r14, r15, r16, r17, r18, r19, r20, r21, r22) := by rw [if_neg (show ¬ (false = true) by decide)] at H; exact H
    clear H
    have H := H1
    clear H1
    simp only [Option.some.injEq, Prod.mk.injEq] at H
    obtain ⟨rfl, rfl, rfl, rfl, rfl, rfl, rfl, rfl, rfl, rfl, rfl, rfl, rfl, rfl, rfl, rfl, rfl, rfl, rfl, rfl, rfl, rfl⟩ := H
    go_enter Tryd.func5, Tryd.ntmps5
    go_wp2_with (first | ((with_reducible refine gate_dst (N := 2) rfl ?_); refine box_event ?hg (N := 2) ?hd (cs := #[.string (⟨#[]⟩ : ByteArray), .string (⟨#[]⟩ : ByteArray), .string (⟨#[]⟩ : ByteArray), .int .i64 0, .string (⟨#[]⟩ : ByteArray), .int .u32 0, .int .u16 0, .int .u16 0, .int .u16 0, .int .u16 0, .int .u16 0, .int .u16 0, .int .u16 0, .int .u16 0, .int .i64 0, .bool false, .slice none 0 0, .bool false, .string (⟨#[]⟩ : ByteArray), .bool false, .string (⟨#[]⟩ : ByteArray)]) (t := 30) ?hr ?_; (case hd => rfl); (case hg => rfl); (case hr => first | (go_simp; done) | (go_simp; rfl)); intro gb131 hg w25 hbox hb; have n0_ := Aside0.mk (below_step (by repeat (first | (with_reducible first | exact HB.out | apply below_alloc | apply pw_below_drewN | apply below_drew1) | exact HB.out)) hb); have n1_ := Aside0.mk (hbox); have n2_ := Aside0.mk ((by rw [hg]; exact (below_size (by repeat (first | (with_reducible first | exact HB.out | apply below_alloc | apply pw_below_drewN | apply below_drew1) | exact HB.out))) : w.heap.size ≤ gb131)); have n3_ := Aside0.mk ((by rw [hg]; exact (below_size (by repeat (first | (with_reducible first | exact HB.out | apply below_alloc | apply pw_below_drewN | apply below_drew1) | exact HB.out))) : w.heap.size ≤ gb131)); clear HB; have HB := n0_; have BK131 := n1_; have GW131 := n2_; have GE131 := n3_; clear n0_ n1_ n2_ n3_; clear hb hbox hg) | ((with_reducible refine gate_callee (f := 9) rfl ?_); refine goesL_ (some 10) rfl rfl Tryd.func9 (by kernel_rfl) rfl #[.string a0] rfl (by (try simp only [List.map_toArray, List.map_cons, List.map_nil]); first | done | rfl | (simp only [List.length_drop, List.length_take]; rfl)) ?_; (with_reducible refine (file_Clean.calls a0 false _ ?side1 A2.out).mono ?_); (case side1 => exact EnvOK.step HE.out (by repeat (first | (with_reducible first | exact HB.out | apply below_alloc | apply pw_below_drewN | apply below_drew1 | refine below_set ?_ GE131.out) | exact HB.out))); rintro e w26 ⟨rfl, hb⟩; refine ⟨_, rfl, ?_⟩; have n0_ := Aside0.mk (blk_below (g := gb131) (o := .cells #[.string (⟨#[]⟩ : ByteArray), .string (⟨#[]⟩ : ByteArray), .string (⟨#[]⟩ : ByteArray), .int .i64 0, .string (⟨#[]⟩ : ByteArray), .int .u32 0, .int .u16 0, .int .u16 0, .int .u16 0, .int .u16 0, .int .u16 0, .int .u16 0, .int .u16 0, .int .u16 0, .int .i64 0, .bool false, .slice none 0 0, .bool false, .string (⟨#[]⟩ : ByteArray), .bool false, .string (⟨#[]⟩ : ByteArray)] 30 (0, 0)) (by (with_reducible repeat (first | refine blk_drewN ?_ _ | refine blk_drew ?_ | refine blk_alloc ?_ _)); exact BK131.out) hb); have n1_ := Aside0.mk (below_step (by repeat (first | (with_reducible first | exact HB.out | apply below_alloc | apply pw_below_drewN | apply below_drew1 | refine below_set ?_ GE131.out) | exact HB.out)) hb); clear BK131; clear HB; have BK131 := n0_; have HB := n1_; clear n0_ n1_; (try clear hb); (try clear hb2); (try clear hk); (try clear hi)) | ((with_reducible refine gate_store (t := 30) (p := 2) rfl ?_); refine whole_event (t := 30) (p := 2) (v := ?vo_w27) (u := ?vu_w27) (g := gb131) (cs := #[.string (⟨#[]⟩ : ByteArray), .string (⟨#[]⟩ : ByteArray), .string (⟨#[]⟩ : ByteArray), .int .i64 0, .string (⟨#[]⟩ : ByteArray), .int .u32 0, .int .u16 0, .int .u16 0, .int .u16 0, .int .u16 0, .int .u16 0, .int .u16 0, .int .u16 0, .int .u16 0, .int .i64 0, .bool false, .slice none 0 0, .bool false, .string (⟨#[]⟩ : ByteArray), .bool false, .string (⟨#[]⟩ : ByteArray)]) ?hg ?ho ?hn ?hp ?hv ?hu BK131.out ?hs ?ht ?h1 ?_; (case ho => rfl); (case hg => rfl); (case hn => rfl); (case hp => rfl); (case hv => rfl); (case hu => rfl); (case hs => rfl); (case ht => kernel_rfl); (case h1 => rfl); intro w27 hbox hwk; have n0_ := Aside0.mk (hbox); have n1_ := Aside0.mk (hwk.below (by repeat (first | (with_reducible first | exact HB.out | apply below_alloc | apply pw_below_drewN | apply below_drew1 | refine below_set ?_ GE131.out) | exact HB.out)) GE131.out); clear BK131; clear HB; have BK131 := n0_; have HB := n1_; clear n0_ n1_; clear hbox hwk))
    refine bodyPost_ret (results_ct rfl _ _ gb131 30 #[.string (⟨#[]⟩ : ByteArray), .string (⟨#[]⟩ : ByteArray), .string (⟨#[]⟩ : ByteArray), .int .i64 0, .string (⟨#[]⟩ : ByteArray), .int .u32 0, .int .u16 0, .int .u16 0, .int .u16 0, .int .u16 0, .int .u16 0, .int .u16 0, .int .u16 0, .int .u16 0, .int .i64 0, .bool false, .slice none 0 0, .bool false, .string (⟨#[]⟩ : ByteArray), .bool false, .string (⟨#[]⟩ : ByteArray)] (0, 0) _ rfl (by (with_reducible repeat (first | refine blk_drewN ?_ _ | refine blk_drew ?_ | refine blk_alloc ?_ _)); exact BK131.out) Tryd.underlying30 rfl (by kernel_rfl)) rfl ?_
    exact ⟨_, by first | rfl | (simp [errW_none, errW_some] <;> rfl) | (simp [*, errW_none, errW_some] <;> rfl), by first | exact Kd.R_nil _ _ _ _ _ | exact Kd.N_nil _ _ _ _ _ | exact Kd.V_nil _ _ _ _ _ | exact Kd.Q_nil _ _ _ _ _ | exact Kd.S_nil _ _ _ _ _, by repeat (first | (with_reducible first | exact HB.out | apply below_alloc | apply pw_below_drewN | apply below_drew1 | refine below_set ?_ GE131.out) | exact HB.out)⟩



/-! ### file_Folder: function 7 -/
def file_Folder.f (k : Nat) (a0 : ByteArray) : Option (ByteArray × ByteArray × ByteArray × Int × ByteArray × Int × Int × Int × Int × Int × Int × Int × Int × Int × Int × Bool × List ByteArray × Bool × ByteArray × Bool × ByteArray × Int) := (file_URL.f k a0).bind fun bt132 => (if bt132.2.2.2.2.2.2.2.2.2.2.2.2.2.2.2.2.2.2.2.2.2 = 0 then (if a0.toList = ([47] : List UInt8) then (some (bt132.1, bt132.2.1, bt132.2.2.1, bt132.2.2.2.1, bt132.2.2.2.2.1, bt132.2.2.2.2.2.1, bt132.2.2.2.2.2.2.1, bt132.2.2.2.2.2.2.2.1, bt132.2.2.2.2.2.2.2.2.1, bt132.2.2.2.2.2.2.2.2.2.1, bt132.2.2.2.2.2.2.2.2.2.2.1, bt132.2.2.2.2.2.2.2.2.2.2.2.1, bt132.2.2.2.2.2.2.2.2.2.2.2.2.1, bt132.2.2.2.2.2.2.2.2.2.2.2.2.2.1, bt132.2.2.2.2.2.2.2.2.2.2.2.2.2.2.1, bt132.2.2.2.2.2.2.2.2.2.2.2.2.2.2.2.1, bt132.2.2.2.2.2.2.2.2.2.2.2.2.2.2.2.2.1, bt132.2.2.2.2.2.2.2.2.2.2.2.2.2.2.2.2.2.1, bt132.2.2.2.2.2.2.2.2.2.2.2.2.2.2.2.2.2.2.1, bt132.2.2.2.2.2.2.2.2.2.2.2.2.2.2.2.2.2.2.2.1, bt132.2.2.2.2.2.2.2.2.2.2.2.2.2.2.2.2.2.2.2.2.1, bt132.2.2.2.2.2.2.2.2.2.2.2.2.2.2.2.2.2.2.2.2.2)) else (if bt132.2.2.2.2.2.2.2.2.2.2.2.2.2.2.2.2.1.length < 8796093022208 then (some (bt132.1, bt132.2.1, bt132.2.2.1, bt132.2.2.2.1, bt132.2.2.2.2.1, bt132.2.2.2.2.2.1, bt132.2.2.2.2.2.2.1, bt132.2.2.2.2.2.2.2.1, bt132.2.2.2.2.2.2.2.2.1, bt132.2.2.2.2.2.2.2.2.2.1, bt132.2.2.2.2.2.2.2.2.2.2.1, bt132.2.2.2.2.2.2.2.2.2.2.2.1, bt132.2.2.2.2.2.2.2.2.2.2.2.2.1, bt132.2.2.2.2.2.2.2.2.2.2.2.2.2.1, bt132.2.2.2.2.2.2.2.2.2.2.2.2.2.2.1, bt132.2.2.2.2.2.2.2.2.2.2.2.2.2.2.2.1, (bt132.2.2.2.2.2.2.2.2.2.2.2.2.2.2.2.2.1 ++ [(⟨#[]⟩ : ByteArray)]), bt132.2.2.2.2.2.2.2.2.2.2.2.2.2.2.2.2.2.1, bt132.2.2.2.2.2.2.2.2.2.2.2.2.2.2.2.2.2.2.1, bt132.2.2.2.2.2.2.2.2.2.2.2.2.2.2.2.2.2.2.2.1, bt132.2.2.2.2.2.2.2.2.2.2.2.2.2.2.2.2.2.2.2.2.1, bt132.2.2.2.2.2.2.2.2.2.2.2.2.2.2.2.2.2.2.2.2.2)) else (none))) else (some (bt132.1, bt132.2.1, bt132.2.2.1, bt132.2.2.2.1, bt132.2.2.2.2.1, bt132.2.2.2.2.2.1, bt132.2.2.2.2.2.2.1, bt132.2.2.2.2.2.2.2.1, bt132.2.2.2.2.2.2.2.2.1, bt132.2.2.2.2.2.2.2.2.2.1, bt132.2.2.2.2.2.2.2.2.2.2.1, bt132.2.2.2.2.2.2.2.2.2.2.2.1, bt132.2.2.2.2.2.2.2.2.2.2.2.2.1, bt132.2.2.2.2.2.2.2.2.2.2.2.2.2.1, bt132.2.2.2.2.2.2.2.2.2.2.2.2.2.2.1, bt132.2.2.2.2.2.2.2.2.2.2.2.2.2.2.2.1, bt132.2.2.2.2.2.2.2.2.2.2.2.2.2.2.2.2.1, bt132.2.2.2.2.2.2.2.2.2.2.2.2.2.2.2.2.2.1, bt132.2.2.2.2.2.2.2.2.2.2.2.2.2.2.2.2.2.2.1, bt132.2.2.2.2.2.2.2.2.2.2.2.2.2.2.2.2.2.2.2.1, bt132.2.2.2.2.2.2.2.2.2.2.2.2.2.2.2.2.2.2.2.2.1, bt132.2.2.2.2.2.2.2.2.2.2.2.2.2.2.2.2.2.2.2.2.2)))
theorem file_Folder.mono : ∀ a0 k, LeO (file_Folder.f k a0) (file_Folder.f (k + 1) a0) := by
  intro a0 k
  unfold file_Folder.f
  repeat' first
      | (with_reducible exact file_URL.mono _ _)
      | (with_reducible exact LeO.refl _)
      | (with_reducible exact LeO.none _)
      | (with_reducible refine LeO.ite ?_ ?_)
      | (with_reducible refine LeO.bind ?_ (fun _ => ?_))
      | exact file_URL.mono _ _
      | exact LeO.none _
      | refine LeO.ite ?_ ?_
      | refine LeO.bind ?_ (fun _ => ?_)
set_option maxHeartbeats 8000000 in
set_option maxRecDepth 100000 in
theorem file_Folder.calls (k : Nat) (a0 : ByteArray) (r1 : ByteArray) (r2 : ByteArray) (r3 : ByteArray) (r4 : Int) (r5 : ByteArray) (r6 : Int) (r7 : Int) (r8 : Int) (r9 : Int) (r10 : Int) (r11 : Int) (r12 : Int) (r13 : Int) (r14 : Int) (r15 : Int) (r16 : Bool) (r17 : List ByteArray) (r18 : Bool) (r19 : ByteArray) (r20 : Bool) (r21 : ByteArray) (r22 : Int) (w : World) (hE : EnvOK w) (h : file_Folder.f k a0 = some (r1, r2, r3, r4, r5, r6, r7, r8, r9, r10, r11, r12, r13, r14, r15, r16, r17, r18, r19, r20, r21, r22)) :
    Calls Tryd.prog 7 #[.string a0] w fun e w' => ∃ v16_ : Value, e = .returned (.tuple #[.agg #[.string r1, .string r2, .string r3, .int .i64 r4, .string r5, .int .u32 r6, .int .u16 r7, .int .u16 r8, .int .u16 r9, .int .u16 r10, .int .u16 r11, .int .u16 r12, .int .u16 r13, .int .u16 r14, .int .i64 r15, .bool r16, v16_, .bool r18, .string r19, .bool r20, .string r21], .int .i64 r22]) ∧ Kd.R Kd.string 9 w' w.heap.size (fun _ => True) v16_ r17 ∧ Below w.heap.size w w' := by
  have hu30 := Tryd.underlying30
  have HE := Aside0.mk hE
  clear hE
  have HB := Aside0.mk (Below.refl w.heap.size w)
  have H : ((file_URL.f k a0).bind fun bt132 => (if bt132.2.2.2.2.2.2.2.2.2.2.2.2.2.2.2.2.2.2.2.2.2 = 0 then (if a0.toList = ([47] : List UInt8) then (some (bt132.1, bt132.2.1, bt132.2.2.1, bt132.2.2.2.1, bt132.2.2.2.2.1, bt132.2.2.2.2.2.1, bt132.2.2.2.2.2.2.1, bt132.2.2.2.2.2.2.2.1, bt132.2.2.2.2.2.2.2.2.1, bt132.2.2.2.2.2.2.2.2.2.1, bt132.2.2.2.2.2.2.2.2.2.2.1, bt132.2.2.2.2.2.2.2.2.2.2.2.1, bt132.2.2.2.2.2.2.2.2.2.2.2.2.1, bt132.2.2.2.2.2.2.2.2.2.2.2.2.2.1, bt132.2.2.2.2.2.2.2.2.2.2.2.2.2.2.1, bt132.2.2.2.2.2.2.2.2.2.2.2.2.2.2.2.1, bt132.2.2.2.2.2.2.2.2.2.2.2.2.2.2.2.2.1, bt132.2.2.2.2.2.2.2.2.2.2.2.2.2.2.2.2.2.1, bt132.2.2.2.2.2.2.2.2.2.2.2.2.2.2.2.2.2.2.1, bt132.2.2.2.2.2.2.2.2.2.2.2.2.2.2.2.2.2.2.2.1, bt132.2.2.2.2.2.2.2.2.2.2.2.2.2.2.2.2.2.2.2.2.1, bt132.2.2.2.2.2.2.2.2.2.2.2.2.2.2.2.2.2.2.2.2.2)) else (if bt132.2.2.2.2.2.2.2.2.2.2.2.2.2.2.2.2.1.length < 8796093022208 then (some (bt132.1, bt132.2.1, bt132.2.2.1, bt132.2.2.2.1, bt132.2.2.2.2.1, bt132.2.2.2.2.2.1, bt132.2.2.2.2.2.2.1, bt132.2.2.2.2.2.2.2.1, bt132.2.2.2.2.2.2.2.2.1, bt132.2.2.2.2.2.2.2.2.2.1, bt132.2.2.2.2.2.2.2.2.2.2.1, bt132.2.2.2.2.2.2.2.2.2.2.2.1, bt132.2.2.2.2.2.2.2.2.2.2.2.2.1, bt132.2.2.2.2.2.2.2.2.2.2.2.2.2.1, bt132.2.2.2.2.2.2.2.2.2.2.2.2.2.2.1, bt132.2.2.2.2.2.2.2.2.2.2.2.2.2.2.2.1, (bt132.2.2.2.2.2.2.2.2.2.2.2.2.2.2.2.2.1 ++ [(⟨#[]⟩ : ByteArray)]), bt132.2.2.2.2.2.2.2.2.2.2.2.2.2.2.2.2.2.1, bt132.2.2.2.2.2.2.2.2.2.2.2.2.2.2.2.2.2.2.1, bt132.2.2.2.2.2.2.2.2.2.2.2.2.2.2.2.2.2.2.2.1, bt132.2.2.2.2.2.2.2.2.2.2.2.2.2.2.2.2.2.2.2.2.1, bt132.2.2.2.2.2.2.2.2.2.2.2.2.2.2.2.2.2.2.2.2.2)) else (none))) else (some (bt132.1, bt132.2.1, bt132.2.2.1, bt132.2.2.2.1, bt132.2.2.2.2.1, bt132.2.2.2.2.2.1, bt132.2.2.2.2.2.2.1, bt132.2.2.2.2.2.2.2.1, bt132.2.2.2.2.2.2.2.2.1, bt132.2.2.2.2.2.2.2.2.2.1, bt132.2.2.2.2.2.2.2.2.2.2.1, bt132.2.2.2.2.2.2.2.2.2.2.2.1, bt132.2.2.2.2.2.2.2.2.2.2.2.2.1, bt132.2.2.2.2.2.2.2.2.2.2.2.2.2.1, bt132.2.2.2.2.2.2.2.2.2.2.2.2.2.2.1, bt132.2.2.2.2.2.2.2.2.2.2.2.2.2.2.2.1, bt132.2.2.2.2.2.2.2.2.2.2.2.2.2.2.2.2.1, bt132.2.2.2.2.2.2.2.2.2.2.2.2.2.2.2.2.2.1, bt132.2.2.2.2.2.2.2.2.2.2.2.2.2.2.2.2.2.2.1, bt132.2.2.2.2.2.2.2.2.2.2.2.2.2.2.2.2.2.2.2.1, bt132.2.2.2.2.2.2.2.2.2.2.2.2.2.2.2.2.2.2.2.2.1, bt132.2.2.2.2.2.2.2.2.2.2.2.2.2.2.2.2.2.2.2.2.2)))) = some (r1, r2, r3, r4, r5, r6, r7, r8, r9, r10, r11, r12, r13, r14, r15, r16, r17, r18, r19, r20, r21, r22) := h
  clear h
  replace H := Option.bind_eq_some_iff.mp H
  obtain ⟨⟨t132, t133, t134, t135, t136, t137, t138, t139, t140, t141, t142, t143, t144, t145, t146, t147, t148, t151, t152, t153, t154, t155⟩, A20, H⟩ := H
  replace H : (if t155 = 0 then (if a0.toList = ([47] : List UInt8) then (some (t132, t133, t134, t135, t136, t137, t138, t139, t140, t141, t142, t143, t144, t145, t146, t147, t148, t151, t152, t153, t154, t155)) else (if t148.length < 8796093022208 then (some (t132, t133, t134, t135, t136, t137, t138, t139, t140, t141, t142, t143, t144, t145, t146, t147, (t148 ++ [(⟨#[]⟩ : ByteArray)]), t151, t152, t153, t154, t155)) else (none))) else (some (t132, t133, t134, t135, t136, t137, t138, t139, t140, t141, t142, t143, t144, t145, t146, t147, t148, t151, t152, t153, t154, t155))) = some (r1, r2, r3, r4, r5, r6, r7, r8, r9, r10, r11, r12, r13, r14, r15, r16, r17, r18, r19, r20, r21, r22) := H
  have A2 := Aside0.mk A20
  clear A20
  by_cases c3 : t155 = 0
  · rw [if_pos c3] at H
    have c3b0 : (t155 == 0) = true := beq_iff_eq.mpr c3
    have c3b1 : (t155 != 0) = false := bne_eq_false_iff_eq.mpr c3
    clear c3
    by_cases c4 : a0.toList = ([47] : List UInt8)
    · rw [if_pos c4] at H
      have c4b0 : (a0.toList == ([47] : List UInt8)) = true := beq_iff_eq.mpr c4
      have c4b1 : (a0.toList != ([47] : List UInt8)) = false := bne_eq_false_iff_eq.mpr c4
      clear c4
      simp only [Option.some.injEq, Prod.mk.injEq] at H
      obtain ⟨rfl, rfl, rfl, rfl, rfl, rfl, rfl, rfl, rfl, rfl, rfl, rfl, rfl, rfl, rfl, rfl, rfl, rfl, rfl, rfl, rfl, rfl⟩ := H
      go_enter Tryd.func7, Tryd.ntmps7
      go_wp2_with (first | ((with_reducible refine gate_dst (N := 2) rfl ?_); refine box_event ?hg (N := 2) ?hd (cs := #[.string (⟨#[]⟩ : ByteArray), .string (⟨#[]⟩ : ByteArray), .string (⟨#[]⟩ : ByteArray), .int .i64 0, .string (⟨#[]⟩ : ByteArray), .int .u32 0, .int .u16 0, .int .u16 0, .int .u16 0, .int .u16 0, .int .u16 0, .int .u16 0, .int .u16 0, .int .u16 0, .int .i64 0, .bool false, .slice none 0 0, .bool false, .string (⟨#[]⟩ : ByteArray), .bool false, .string (⟨#[]⟩ : ByteArray)]) (t := 30) ?hr ?_; (case hd => rfl); (case hg => rfl); (case hr => first | (go_simp; done) | (go_simp; rfl)); intro gb131 hg w5 hbox hb; have n0_ := Aside0.mk (below_step (by repeat (first | (with_reducible first | exact HB.out | apply below_alloc | apply pw_below_drewN | apply below_drew1) | exact HB.out)) hb); have n1_ := Aside0.mk (hbox); have n2_ := Aside0.mk ((by rw [hg]; exact (below_size (by repeat (first | (with_reducible first | exact HB.out | apply below_alloc | apply pw_below_drewN | apply below_drew1) | exact HB.out))) : w.heap.size ≤ gb131)); have n3_ := Aside0.mk ((by rw [hg]; exact (below_size (by repeat (first | (with_reducible first | exact HB.out | apply below_alloc | apply pw_below_drewN | apply below_drew1) | exact HB.out))) : w.heap.size ≤ gb131)); clear HB; have HB := n0_; have BK131 := n1_; have GW131 := n2_; have GE131 := n3_; clear n0_ n1_ n2_ n3_; clear hb hbox hg) | ((with_reducible refine gate_callee (f := 5) rfl ?_); refine goesL_ (some 8) rfl rfl Tryd.func5 (by kernel_rfl) rfl #[.string a0] rfl (by (try simp only [List.map_toArray, List.map_cons, List.map_nil]); first | done | rfl | (simp only [List.length_drop, List.length_take]; rfl)) ?_; (with_reducible refine (file_URL.calls k a0 t132 t133 t134 t135 t136 t137 t138 t139 t140 t141 t142 t143 t144 t145 t146 t147 t148 t151 t152 t153 t154 t155 _ ?side1 A2.out).mono ?_); (case side1 => exact EnvOK.step HE.out (by repeat (first | (with_reducible first | exact HB.out | apply below_alloc | apply pw_below_drewN | apply below_drew1 | refine below_set ?_ GE131.out) | exact HB.out))); rintro e w6 ⟨v149, rfl, ho0, hb⟩; refine ⟨_, rfl, ?_⟩; have n0_ := Aside0.mk (Kd.R_lower ho0 (below_size (by repeat (first | (with_reducible first | exact HB.out | apply below_alloc | apply pw_below_drewN | apply below_drew1 | refine below_set ?_ GE131.out) | exact HB.out)))); have n1_ := Aside0.mk (blk_below (g := gb131) (o := .cells #[.string (⟨#[]⟩ : ByteArray), .string (⟨#[]⟩ : ByteArray), .string (⟨#[]⟩ : ByteArray), .int .i64 0, .string (⟨#[]⟩ : ByteArray), .int .u32 0, .int .u16 0, .int .u16 0, .int .u16 0, .int .u16 0, .int .u16 0, .int .u16 0, .int .u16 0, .int .u16 0, .int .i64 0, .bool false, .slice none 0 0, .bool false, .string (⟨#[]⟩ : ByteArray), .bool false, .string (⟨#[]⟩ : ByteArray)] 30 (0, 0)) (by (with_reducible repeat (first | refine blk_drewN ?_ _ | refine blk_drew ?_ | refine blk_alloc ?_ _)); exact BK131.out) hb); have n2_ := Aside0.mk (below_step (by repeat (first | (with_reducible first | exact HB.out | apply below_alloc | apply pw_below_drewN | apply below_drew1 | refine below_set ?_ GE131.out) | exact HB.out)) hb); clear BK131; clear HB; have HO150 := n0_; have BK131 := n1_; have HB := n2_; clear n0_ n1_ n2_; (try clear hb); (try clear hb2); (try clear hk); (try clear hi); (try clear ho0)) | ((with_reducible refine gate_dst (N := 4) rfl ?_); refine box_event ?hg (N := 4) ?hd (cs := #[.string (⟨#[]⟩ : ByteArray), .string (⟨#[]⟩ : ByteArray), .string (⟨#[]⟩ : ByteArray), .int .i64 0, .string (⟨#[]⟩ : ByteArray), .int .u32 0, .int .u16 0, .int .u16 0, .int .u16 0, .int .u16 0, .int .u16 0, .int .u16 0, .int .u16 0, .int .u16 0, .int .i64 0, .bool false, .slice none 0 0, .bool false, .string (⟨#[]⟩ : ByteArray), .bool false, .string (⟨#[]⟩ : ByteArray)]) (t := 30) ?hr ?_; (case hd => rfl); (case hg => rfl); (case hr => first | (go_simp; done) | (go_simp; rfl)); intro gb156 hg w7 hbox hb; have n0_ := Aside0.mk (Kd.R_below (by (with_reducible repeat (first | apply Kd.R_alloc | apply Kd.R_drewN | apply Kd.R_drew)); exact HO150.out) hb); have n1_ := Aside0.mk (blk_below (g := gb131) (o := .cells #[.string (⟨#[]⟩ : ByteArray), .string (⟨#[]⟩ : ByteArray), .string (⟨#[]⟩ : ByteArray), .int .i64 0, .string (⟨#[]⟩ : ByteArray), .int .u32 0, .int .u16 0, .int .u16 0, .int .u16 0, .int .u16 0, .int .u16 0, .int .u16 0, .int .u16 0, .int .u16 0, .int .i64 0, .bool false, .slice none 0 0, .bool false, .string (⟨#[]⟩ : ByteArray), .bool false, .string (⟨#[]⟩ : ByteArray)] 30 (0, 0)) (by (with_reducible repeat (first | refine blk_drewN ?_ _ | refine blk_drew ?_ | refine blk_alloc ?_ _)); exact BK131.out) hb); have n2_ := Aside0.mk (below_step (by repeat (first | (with_reducible first | exact HB.out | apply below_alloc | apply pw_below_drewN | apply below_drew1 | refine below_set ?_ GE131.out) | exact HB.out)) hb); have n3_ := Aside0.mk (hbox); have n4_ := Aside0.mk ((by rw [hg]; exact (below_size (by repeat (first | (with_reducible first | exact HB.out | apply below_alloc | apply pw_below_drewN | apply below_drew1 | refine below_set ?_ GE131.out) | exact HB.out))) : w.heap.size ≤ gb156)); have n5_ := Aside0.mk ((by rw [hg]; exact (below_size (by repeat (first | (with_reducible first | exact HB.out | apply below_alloc | apply pw_below_drewN | apply below_drew1 | refine below_set ?_ GE131.out) | exact HB.out))) : w.heap.size ≤ gb156)); have n6_ := Aside0.mk ((by rw [hg]; exact Nat.ne_of_lt (blk_lt (g := gb131) (o := .cells #[.string (⟨#[]⟩ : ByteArray), .string (⟨#[]⟩ : ByteArray), .string (⟨#[]⟩ : ByteArray), .int .i64 0, .string (⟨#[]⟩ : ByteArray), .int .u32 0, .int .u16 0, .int .u16 0, .int .u16 0, .int .u16 0, .int .u16 0, .int .u16 0, .int .u16 0, .int .u16 0, .int .i64 0, .bool false, .slice none 0 0, .bool false, .string (⟨#[]⟩ : ByteArray), .bool false, .string (⟨#[]⟩ : ByteArray)] 30 (0, 0)) (by (with_reducible repeat (first | refine blk_drewN ?_ _ | refine blk_drew ?_ | refine blk_alloc ?_ _)); exact BK131.out)) : gb131 ≠ gb156)); have n7_ := Aside0.mk ((by rw [hg]; exact Nat.ne_of_gt (blk_lt (g := gb131) (o := .cells #[.string (⟨#[]⟩ : ByteArray), .string (⟨#[]⟩ : ByteArray), .string (⟨#[]⟩ : ByteArray), .int .i64 0, .string (⟨#[]⟩ : ByteArray), .int .u32 0, .int .u16 0, .int .u16 0, .int .u16 0, .int .u16 0, .int .u16 0, .int .u16 0, .int .u16 0, .int .u16 0, .int .i64 0, .bool false, .slice none 0 0, .bool false, .string (⟨#[]⟩ : ByteArray), .bool false, .string (⟨#[]⟩ : ByteArray)] 30 (0, 0)) (by (with_reducible repeat (first | refine blk_drewN ?_ _ | refine blk_drew ?_ | refine blk_alloc ?_ _)); exact BK131.out)) : gb156 ≠ gb131)); clear HO150; clear BK131; clear HB; have HO150 := n0_; have BK131 := n1_; have HB := n2_; have BK156 := n3_; have GW156 := n4_; have GE156 := n5_; have NB131_156 := n6_; have NB156_131 := n7_; clear n0_ n1_ n2_ n3_ n4_ n5_ n6_ n7_; clear hb hbox hg; obtain ⟨Ao8, co8, eo8⟩ := Kd.R_slice HO150.out; subst eo8) | ((with_reducible refine gate_store (t := 30) (p := 4) rfl ?_); refine whole_event (t := 30) (p := 4) (v := ?vo_w9) (u := ?vu_w9) (g := gb156) (cs := #[.string t132, .string t133, .string t134, .int .i64 t135, .string t136, .int .u32 t137, .int .u16 t138, .int .u16 t139, .int .u16 t140, .int .u16 t141, .int .u16 t142, .int .u16 t143, .int .u16 t144, .int .u16 t145, .int .i64 t146, .bool t147, .slice Ao8 t148.length co8, .bool t151, .string t152, .bool t153, .string t154]) ?hg ?ho ?hn ?hp ?hv ?hu BK156.out ?hs ?ht ?h1 ?_; (case ho => rfl); (case hg => rfl); (case hn => rfl); (case hp => rfl); (case hv => rfl); (case hu => rfl); (case hs => rfl); (case ht => kernel_rfl); (case h1 => rfl); intro w9 hbox hwk; have n0_ := Aside0.mk (blk_whole (k := gb131) (o := .cells #[.string (⟨#[]⟩ : ByteArray), .string (⟨#[]⟩ : ByteArray), .string (⟨#[]⟩ : ByteArray), .int .i64 0, .string (⟨#[]⟩ : ByteArray), .int .u32 0, .int .u16 0, .int .u16 0, .int .u16 0, .int .u16 0, .int .u16 0, .int .u16 0, .int .u16 0, .int .u16 0, .int .i64 0, .bool false, .slice none 0 0, .bool false, .string (⟨#[]⟩ : ByteArray), .bool false, .string (⟨#[]⟩ : ByteArray)] 30 (0, 0)) (by (with_reducible repeat (first | refine blk_drewN ?_ _ | refine blk_drew ?_ | refine blk_alloc ?_ _)); exact BK131.out) hwk NB131_156.out); have n1_ := Aside0.mk (Kd.R_mono (Kd.R_step (Kd.R_types (by (with_reducible repeat (first | apply Kd.R_alloc | apply Kd.R_drewN | apply Kd.R_drew)); exact HO150.out) BK156.out (by decide)) (fun _ hk _ => hwk.2 _ hk.2)) (fun _ hk => hk.1)); have n2_ := Aside0.mk (hbox); have n3_ := Aside0.mk (hwk.below (by repeat (first | (with_reducible first | exact HB.out | apply below_alloc | apply pw_below_drewN | apply below_drew1 | refine below_set ?_ GE131.out | refine below_set ?_ GE156.out) | exact HB.out)) GE156.out); clear BK131; clear HO150; clear BK156; clear HB; have BK131 := n0_; have HO150 := n1_; have BK156 := n2_; have HB := n3_; clear n0_ n1_ n2_ n3_; clear hbox hwk) | ((with_reducible refine gate_dst (N := 22) rfl ?_); (try (refine gate_guard (by rfl) ?_; dsimp only)); (with_reducible refine gate_load (t := 30) (p := 4) (N := 22) rfl rfl ?_); refine load_event (t := 30) (p := 4) (g := gb156) (T := 30) (cs := #[.string t132, .string t133, .string t134, .int .i64 t135, .string t136, .int .u32 t137, .int .u16 t138, .int .u16 t139, .int .u16 t140, .int .u16 t141, .int .u16 t142, .int .u16 t143, .int .u16 t144, .int .u16 t145, .int .i64 t146, .bool t147, .slice Ao8 t148.length co8, .bool t151, .string t152, .bool t153, .string t154]) ?hg ?ho ?hp ?hb Tryd.underlying30 rfl ?hi ?_; (case ho => rfl); (case hg => rfl); (case hp => rfl); (case hb => exact (by (with_reducible repeat (first | refine blk_drewN ?_ _ | refine blk_drew ?_ | refine blk_alloc ?_ _)); exact BK156.out)); (case hi => kernel_rfl)) | ((with_reducible refine gate_store (t := 30) (p := 2) rfl ?_); refine whole_event (t := 30) (p := 2) (v := ?vo_w10) (u := ?vu_w10) (g := gb131) (cs := #[.string t132, .string t133, .string t134, .int .i64 t135, .string t136, .int .u32 t137, .int .u16 t138, .int .u16 t139, .int .u16 t140, .int .u16 t141, .int .u16 t142, .int .u16 t143, .int .u16 t144, .int .u16 t145, .int .i64 t146, .bool t147, .slice Ao8 t148.length co8, .bool t151, .string t152, .bool t153, .string t154]) ?hg ?ho ?hn ?hp ?hv ?hu BK131.out ?hs ?ht ?h1 ?_; (case ho => rfl); (case hg => rfl); (case hn => rfl); (case hp => rfl); (case hv => rfl); (case hu => rfl); (case hs => rfl); (case ht => kernel_rfl); (case h1 => rfl); intro w10 hbox hwk; have n0_ := Aside0.mk (Kd.R_mono (Kd.R_step (Kd.R_types (by (with_reducible repeat (first | apply Kd.R_alloc | apply Kd.R_drewN | apply Kd.R_drew)); exact HO150.out) BK131.out (by decide)) (fun _ hk _ => hwk.2 _ hk.2)) (fun _ hk => hk.1)); have n1_ := Aside0.mk (blk_whole (k := gb156) (o := .cells #[.string t132, .string t133, .string t134, .int .i64 t135, .string t136, .int .u32 t137, .int .u16 t138, .int .u16 t139, .int .u16 t140, .int .u16 t141, .int .u16 t142, .int .u16 t143, .int .u16 t144, .int .u16 t145, .int .i64 t146, .bool t147, .slice Ao8 t148.length co8, .bool t151, .string t152, .bool t153, .string t154] 30 (0, 0)) (by (with_reducible repeat (first | refine blk_drewN ?_ _ | refine blk_drew ?_ | refine blk_alloc ?_ _)); exact BK156.out) hwk NB156_131.out); have n2_ := Aside0.mk (hbox); have n3_ := Aside0.mk (hwk.below (by repeat (first | (with_reducible first | exact HB.out | apply below_alloc | apply pw_below_drewN | apply below_drew1 | refine below_set ?_ GE131.out | refine below_set ?_ GE156.out) | exact HB.out)) GE131.out); clear HO150; clear BK156; clear BK131; clear HB; have HO150 := n0_; have BK156 := n1_; have BK131 := n2_; have HB := n3_; clear n0_ n1_ n2_ n3_; clear hbox hwk))
      refine bodyPost_ret (results_ct rfl _ _ gb131 30 #[.string t132, .string t133, .string t134, .int .i64 t135, .string t136, .int .u32 t137, .int .u16 t138, .int .u16 t139, .int .u16 t140, .int .u16 t141, .int .u16 t142, .int .u16 t143, .int .u16 t144, .int .u16 t145, .int .i64 t146, .bool t147, .slice Ao8 t148.length co8, .bool t151, .string t152, .bool t153, .string t154] (0, 0) _ rfl (by (with_reducible repeat (first | refine blk_drewN ?_ _ | refine blk_drew ?_ | refine blk_alloc ?_ _)); exact BK131.out) Tryd.underlying30 rfl (by kernel_rfl)) rfl ?_
      exact ⟨_, by first | rfl | (simp [errW_none, errW_some] <;> rfl) | (simp [*, errW_none, errW_some] <;> rfl), by (with_reducible repeat (first | apply Kd.R_alloc | apply Kd.R_drewN | apply Kd.R_drew)); exact HO150.out, by repeat (first | (with_reducible first | exact HB.out | apply below_alloc | apply pw_below_drewN | apply below_drew1 | refine below_set ?_ GE131.out | refine below_set ?_ GE156.out) | exact HB.out)⟩
    · rw [if_neg c4] at H
      have c4b0 : (a0.toList == ([47] : List UInt8)) = false := beq_eq_false_iff_ne.mpr c4
      have c4b1 : (a0.toList != ([47] : List UInt8)) = true := bne_iff_ne.mpr c4
      by_cases c11 : t148.length < 8796093022208
      · rw [if_pos c11] at H
        have LMc11 := Aside0.mk c11
        clear c11
        obtain ⟨y157, hy157⟩ : ∃ y_ : List ByteArray, y_ = (t148 ++ [(⟨#[]⟩ : ByteArray)]) := ⟨_, rfl⟩
        replace H : (some (t132, t133, t134, t135, t136, t137, t138, t139, t140, t141, t142, t143, t144, t145, t146, t147, y157, t151, t152, t153, t154, t155)) = some (r1, r2, r3, r4, r5, r6, r7, r8, r9, r10, r11, r12, r13, r14, r15, r16, r17, r18, r19, r20, r21, r22) := by first | (rw [hy157]; with_reducible exact H) | (have H2_ := (Option.bind_some _ _).symm.trans H; rw [hy157]; with_reducible exact H2_) | (have H2_ := (Option.bind_some _ _).symm.trans H; with_reducible exact H2_) | with_reducible exact H | (rw [hy157]; exact H) | exact H
        have Ny157 := Aside0.mk hy157
        clear hy157
        simp only [Option.some.injEq, Prod.mk.injEq] at H
        obtain ⟨rfl, rfl, rfl, rfl, rfl, rfl, rfl, rfl, rfl, rfl, rfl, rfl, rfl, rfl, rfl, rfl, rfl, rfl, rfl, rfl, rfl, rfl⟩ := H
        go_enter Tryd.func7, Tryd.ntmps7
        go_wp2_with (first | ((with_reducible refine gate_dst (N := 2) rfl ?_); refine box_event ?hg (N := 2) ?hd (cs := #[.string (⟨#[]⟩ : ByteArray), .string (⟨#[]⟩ : ByteArray), .string (⟨#[]⟩ : ByteArray), .int .i64 0, .string (⟨#[]⟩ : ByteArray), .int .u32 0, .int .u16 0, .int .u16 0, .int .u16 0, .int .u16 0, .int .u16 0, .int .u16 0, .int .u16 0, .int .u16 0, .int .i64 0, .bool false, .slice none 0 0, .bool false, .string (⟨#[]⟩ : ByteArray), .bool false, .string (⟨#[]⟩ : ByteArray)]) (t := 30) ?hr ?_; (case hd => rfl); (case hg => rfl); (case hr => first | (go_simp; done) | (go_simp; rfl)); intro gb131 hg w12 hbox hb; have n0_ := Aside0.mk (below_step (by repeat (first | (with_reducible first | exact HB.out | apply below_alloc | apply pw_below_drewN | apply below_drew1) | exact HB.out)) hb); have n1_ := Aside0.mk (hbox); have n2_ := Aside0.mk ((by rw [hg]; exact (below_size (by repeat (first | (with_reducible first | exact HB.out | apply below_alloc | apply pw_below_drewN | apply below_drew1) | exact HB.out))) : w.heap.size ≤ gb131)); have n3_ := Aside0.mk ((by rw [hg]; exact (below_size (by repeat (first | (with_reducible first | exact HB.out | apply below_alloc | apply pw_below_drewN | apply below_drew1) | exact HB.out))) : w.heap.size ≤ gb131)); clear HB; have HB := n0_; have BK131 := n1_; have GW131 := n2_; have GE131 := n3_; clear n0_ n1_ n2_ n3_; clear hb hbox hg) | ((with_reducible refine gate_callee (f := 5) rfl ?_); refine goesL_ (some 8) rfl rfl Tryd.func5 (by kernel_rfl) rfl #[.string a0] rfl (by (try simp only [List.map_toArray, List.map_cons, List.map_nil]); first | done | rfl | (simp only [List.length_drop, List.length_take]; rfl)) ?_; (with_reducible refine (file_URL.calls k a0 t132 t133 t134 t135 t136 t137 t138 t139 t140 t141 t142 t143 t144 t145 t146 t147 t148 t151 t152 t153 t154 t155 _ ?side1 A2.out).mono ?_); (case side1 => exact EnvOK.step HE.out (by repeat (first | (with_reducible first | exact HB.out | apply below_alloc | apply pw_below_drewN | apply below_drew1 | refine below_set ?_ GE131.out) | exact HB.out))); rintro e w13 ⟨v149, rfl, ho0, hb⟩; refine ⟨_, rfl, ?_⟩; have n0_ := Aside0.mk (Kd.R_lower ho0 (below_size (by repeat (first | (with_reducible first | exact HB.out | apply below_alloc | apply pw_below_drewN | apply below_drew1 | refine below_set ?_ GE131.out) | exact HB.out)))); have n1_ := Aside0.mk (blk_below (g := gb131) (o := .cells #[.string (⟨#[]⟩ : ByteArray), .string (⟨#[]⟩ : ByteArray), .string (⟨#[]⟩ : ByteArray), .int .i64 0, .string (⟨#[]⟩ : ByteArray), .int .u32 0, .int .u16 0, .int .u16 0, .int .u16 0, .int .u16 0, .int .u16 0, .int .u16 0, .int .u16 0, .int .u16 0, .int .i64 0, .bool false, .slice none 0 0, .bool false, .string (⟨#[]⟩ : ByteArray), .bool false, .string (⟨#[]⟩ : ByteArray)] 30 (0, 0)) (by (with_reducible repeat (first | refine blk_drewN ?_ _ | refine blk_drew ?_ | refine blk_alloc ?_ _)); exact BK131.out) hb); have n2_ := Aside0.mk (below_step (by repeat (first | (with_reducible first | exact HB.out | apply below_alloc | apply pw_below_drewN | apply below_drew1 | refine below_set ?_ GE131.out) | exact HB.out)) hb); clear BK131; clear HB; have HO150 := n0_; have BK131 := n1_; have HB := n2_; clear n0_ n1_ n2_; (try clear hb); (try clear hb2); (try clear hk); (try clear hi); (try clear ho0)) | ((with_reducible refine gate_dst (N := 4) rfl ?_); refine box_event ?hg (N := 4) ?hd (cs := #[.string (⟨#[]⟩ : ByteArray), .string (⟨#[]⟩ : ByteArray), .string (⟨#[]⟩ : ByteArray), .int .i64 0, .string (⟨#[]⟩ : ByteArray), .int .u32 0, .int .u16 0, .int .u16 0, .int .u16 0, .int .u16 0, .int .u16 0, .int .u16 0, .int .u16 0, .int .u16 0, .int .i64 0, .bool false, .slice none 0 0, .bool false, .string (⟨#[]⟩ : ByteArray), .bool false, .string (⟨#[]⟩ : ByteArray)]) (t := 30) ?hr ?_; (case hd => rfl); (case hg => rfl); (case hr => first | (go_simp; done) | (go_simp; rfl)); intro gb156 hg w14 hbox hb; have n0_ := Aside0.mk (Kd.R_below (by (with_reducible repeat (first | apply Kd.R_alloc | apply Kd.R_drewN | apply Kd.R_drew)); exact HO150.out) hb); have n1_ := Aside0.mk (blk_below (g := gb131) (o := .cells #[.string (⟨#[]⟩ : ByteArray), .string (⟨#[]⟩ : ByteArray), .string (⟨#[]⟩ : ByteArray), .int .i64 0, .string (⟨#[]⟩ : ByteArray), .int .u32 0, .int .u16 0, .int .u16 0, .int .u16 0, .int .u16 0, .int .u16 0, .int .u16 0, .int .u16 0, .int .u16 0, .int .i64 0, .bool false, .slice none 0 0, .bool false, .string (⟨#[]⟩ : ByteArray), .bool false, .string (⟨#[]⟩ : ByteArray)] 30 (0, 0)) (by (with_reducible repeat (first | refine blk_drewN ?_ _ | refine blk_drew ?_ | refine blk_alloc ?_ _)); exact BK131.out) hb); have n2_ := Aside0.mk (below_step (by repeat (first | (with_reducible first | exact HB.out | apply below_alloc | apply pw_below_drewN | apply below_drew1 | refine below_set ?_ GE131.out) | exact HB.out)) hb); have n3_ := Aside0.mk (hbox); have n4_ := Aside0.mk ((by rw [hg]; exact (below_size (by repeat (first | (with_reducible first | exact HB.out | apply below_alloc | apply pw_below_drewN | apply below_drew1 | refine below_set ?_ GE131.out) | exact HB.out))) : w.heap.size ≤ gb156)); have n5_ := Aside0.mk ((by rw [hg]; exact (below_size (by repeat (first | (with_reducible first | exact HB.out | apply below_alloc | apply pw_below_drewN | apply below_drew1 | refine below_set ?_ GE131.out) | exact HB.out))) : w.heap.size ≤ gb156)); have n6_ := Aside0.mk ((by rw [hg]; exact Nat.ne_of_lt (blk_lt (g := gb131) (o := .cells #[.string (⟨#[]⟩ : ByteArray), .string (⟨#[]⟩ : ByteArray), .string (⟨#[]⟩ : ByteArray), .int .i64 0, .string (⟨#[]⟩ : ByteArray), .int .u32 0, .int .u16 0, .int .u16 0, .int .u16 0, .int .u16 0, .int .u16 0, .int .u16 0, .int .u16 0, .int .u16 0, .int .i64 0, .bool false, .slice none 0 0, .bool false, .string (⟨#[]⟩ : ByteArray), .bool false, .string (⟨#[]⟩ : ByteArray)] 30 (0, 0)) (by (with_reducible repeat (first | refine blk_drewN ?_ _ | refine blk_drew ?_ | refine blk_alloc ?_ _)); exact BK131.out)) : gb131 ≠ gb156)); have n7_ := Aside0.mk ((by rw [hg]; exact Nat.ne_of_gt (blk_lt (g := gb131) (o := .cells #[.string (⟨#[]⟩ : ByteArray), .string (⟨#[]⟩ : ByteArray), .string (⟨#[]⟩ : ByteArray), .int .i64 0, .string (⟨#[]⟩ : ByteArray), .int .u32 0, .int .u16 0, .int .u16 0, .int .u16 0, .int .u16 0, .int .u16 0, .int .u16 0, .int .u16 0, .int .u16 0, .int .i64 0, .bool false, .slice none 0 0, .bool false, .string (⟨#[]⟩ : ByteArray), .bool false, .string (⟨#[]⟩ : ByteArray)] 30 (0, 0)) (by (with_reducible repeat (first | refine blk_drewN ?_ _ | refine blk_drew ?_ | refine blk_alloc ?_ _)); exact BK131.out)) : gb156 ≠ gb131)); clear HO150; clear BK131; clear HB; have HO150 := n0_; have BK131 := n1_; have HB := n2_; have BK156 := n3_; have GW156 := n4_; have GE156 := n5_; have NB131_156 := n6_; have NB156_131 := n7_; clear n0_ n1_ n2_ n3_ n4_ n5_ n6_ n7_; clear hb hbox hg; obtain ⟨Ao15, co15, eo15⟩ := Kd.R_slice HO150.out; subst eo15) | ((with_reducible refine gate_store (t := 30) (p := 4) rfl ?_); refine whole_event (t := 30) (p := 4) (v := ?vo_w16) (u := ?vu_w16) (g := gb156) (cs := #[.string t132, .string t133, .string t134, .int .i64 t135, .string t136, .int .u32 t137, .int .u16 t138, .int .u16 t139, .int .u16 t140, .int .u16 t141, .int .u16 t142, .int .u16 t143, .int .u16 t144, .int .u16 t145, .int .i64 t146, .bool t147, .slice Ao15 t148.length co15, .bool t151, .string t152, .bool t153, .string t154]) ?hg ?ho ?hn ?hp ?hv ?hu BK156.out ?hs ?ht ?h1 ?_; (case ho => rfl); (case hg => rfl); (case hn => rfl); (case hp => rfl); (case hv => rfl); (case hu => rfl); (case hs => rfl); (case ht => kernel_rfl); (case h1 => rfl); intro w16 hbox hwk; have n0_ := Aside0.mk (blk_whole (k := gb131) (o := .cells #[.string (⟨#[]⟩ : ByteArray), .string (⟨#[]⟩ : ByteArray), .string (⟨#[]⟩ : ByteArray), .int .i64 0, .string (⟨#[]⟩ : ByteArray), .int .u32 0, .int .u16 0, .int .u16 0, .int .u16 0, .int .u16 0, .int .u16 0, .int .u16 0, .int .u16 0, .int .u16 0, .int .i64 0, .bool false, .slice none 0 0, .bool false, .string (⟨#[]⟩ : ByteArray), .bool false, .string (⟨#[]⟩ : ByteArray)] 30 (0, 0)) (by (with_reducible repeat (first | refine blk_drewN ?_ _ | refine blk_drew ?_ | refine blk_alloc ?_ _)); exact BK131.out) hwk NB131_156.out); have n1_ := Aside0.mk (Kd.R_mono (Kd.R_step (Kd.R_types (by (with_reducible repeat (first | apply Kd.R_alloc | apply Kd.R_drewN | apply Kd.R_drew)); exact HO150.out) BK156.out (by decide)) (fun _ hk _ => hwk.2 _ hk.2)) (fun _ hk => hk.1)); have n2_ := Aside0.mk (hbox); have n3_ := Aside0.mk (hwk.below (by repeat (first | (with_reducible first | exact HB.out | apply below_alloc | apply pw_below_drewN | apply below_drew1 | refine below_set ?_ GE131.out | refine below_set ?_ GE156.out) | exact HB.out)) GE156.out); clear BK131; clear HO150; clear BK156; clear HB; have BK131 := n0_; have HO150 := n1_; have BK156 := n2_; have HB := n3_; clear n0_ n1_ n2_ n3_; clear hbox hwk; have hnb17 := NB156_131.out; have hnc17 := NB131_156.out; have hcz18_0 : w16.cell? ⟨gb156, 0, none⟩ = some (.string t132) := (blk_cell BK156.out 0).trans rfl; have hcz18_1 : w16.cell? ⟨gb156, 1, none⟩ = some (.string t133) := (blk_cell BK156.out 1).trans rfl; have hcz18_2 : w16.cell? ⟨gb156, 2, none⟩ = some (.string t134) := (blk_cell BK156.out 2).trans rfl; have hcz18_3 : w16.cell? ⟨gb156, 3, none⟩ = some (.int .i64 t135) := (blk_cell BK156.out 3).trans rfl; have hcz18_4 : w16.cell? ⟨gb156, 4, none⟩ = some (.string t136) := (blk_cell BK156.out 4).trans rfl; have hcz18_5 : w16.cell? ⟨gb156, 5, none⟩ = some (.int .u32 t137) := (blk_cell BK156.out 5).trans rfl; have hcz18_6 : w16.cell? ⟨gb156, 6, none⟩ = some (.int .u16 t138) := (blk_cell BK156.out 6).trans rfl; have hcz18_7 : w16.cell? ⟨gb156, 7, none⟩ = some (.int .u16 t139) := (blk_cell BK156.out 7).trans rfl; have hcz18_8 : w16.cell? ⟨gb156, 8, none⟩ = some (.int .u16 t140) := (blk_cell BK156.out 8).trans rfl; have hcz18_9 : w16.cell? ⟨gb156, 9, none⟩ = some (.int .u16 t141) := (blk_cell BK156.out 9).trans rfl; have hcz18_10 : w16.cell? ⟨gb156, 10, none⟩ = some (.int .u16 t142) := (blk_cell BK156.out 10).trans rfl; have hcz18_11 : w16.cell? ⟨gb156, 11, none⟩ = some (.int .u16 t143) := (blk_cell BK156.out 11).trans rfl; have hcz18_12 : w16.cell? ⟨gb156, 12, none⟩ = some (.int .u16 t144) := (blk_cell BK156.out 12).trans rfl; have hcz18_13 : w16.cell? ⟨gb156, 13, none⟩ = some (.int .u16 t145) := (blk_cell BK156.out 13).trans rfl; have hcz18_14 : w16.cell? ⟨gb156, 14, none⟩ = some (.int .i64 t146) := (blk_cell BK156.out 14).trans rfl; have hcz18_15 : w16.cell? ⟨gb156, 15, none⟩ = some (.bool t147) := (blk_cell BK156.out 15).trans rfl; have hcz18_16 : w16.cell? ⟨gb156, 16, none⟩ = some (.slice Ao15 t148.length co15) := (blk_cell BK156.out 16).trans rfl; have hcz18_17 : w16.cell? ⟨gb156, 17, none⟩ = some (.bool t151) := (blk_cell BK156.out 17).trans rfl; have hcz18_18 : w16.cell? ⟨gb156, 18, none⟩ = some (.string t152) := (blk_cell BK156.out 18).trans rfl; have hcz18_19 : w16.cell? ⟨gb156, 19, none⟩ = some (.bool t153) := (blk_cell BK156.out 19).trans rfl; have hcz18_20 : w16.cell? ⟨gb156, 20, none⟩ = some (.string t154) := (blk_cell BK156.out 20).trans rfl; have hfz18_0 := blk_frozen BK156.out 0; have hfz18_1 := blk_frozen BK156.out 1; have hfz18_2 := blk_frozen BK156.out 2; have hfz18_3 := blk_frozen BK156.out 3; have hfz18_4 := blk_frozen BK156.out 4; have hfz18_5 := blk_frozen BK156.out 5; have hfz18_6 := blk_frozen BK156.out 6; have hfz18_7 := blk_frozen BK156.out 7; have hfz18_8 := blk_frozen BK156.out 8; have hfz18_9 := blk_frozen BK156.out 9; have hfz18_10 := blk_frozen BK156.out 10; have hfz18_11 := blk_frozen BK156.out 11; have hfz18_12 := blk_frozen BK156.out 12; have hfz18_13 := blk_frozen BK156.out 13; have hfz18_14 := blk_frozen BK156.out 14; have hfz18_15 := blk_frozen BK156.out 15; have hfz18_16 := blk_frozen BK156.out 16; have hfz18_17 := blk_frozen BK156.out 17; have hfz18_18 := blk_frozen BK156.out 18; have hfz18_19 := blk_frozen BK156.out 19; have hfz18_20 := blk_frozen BK156.out 20) | ((with_reducible refine gate_builtin (b := .append) (xs := #[.tmp 18, .tmp 19]) rfl ?_); at_builtin; refine Kd.R_append Kd.string (w0 := w) w.heap.size rfl (.tmp 18) (.tmp 19) 28 9 (.string ⟨#[]⟩) 16 rfl Tryd.underlying28 info9 rfl (by decide) (by omega) (.slice Ao15 t148.length co15) t148 (⟨#[]⟩ : ByteArray) [.string (⟨#[]⟩ : ByteArray)] (fun _ => True) (fun _ => False) rfl rfl ?aP (fun _ hk => hk.elim) ?aF ?aO ?aB ?aS ?aL ?_; (case aP => exact rfl); (case aB => exact (by repeat (first | (with_reducible first | exact HB.out | apply below_alloc | apply pw_below_drewN | apply below_drew1 | refine below_set ?_ GE131.out | refine below_set ?_ GE156.out) | exact HB.out))); (case aF => exact (fun _ _ => trivial)); (case aO => exact (by (with_reducible repeat (first | apply Kd.R_alloc | apply Kd.R_drewN | apply Kd.R_drew)); exact HO150.out)); (case aS => exact (below_size (by repeat (first | (with_reducible first | exact HB.out | apply below_alloc | apply pw_below_drewN | apply below_drew1 | refine below_set ?_ GE131.out | refine below_set ?_ GE156.out) | exact HB.out)))); (case aL => have := LMc11.out; omega); intro v158 w19 ho hb hg hat; rw [← Ny157.out] at ho; have n0_ := Aside0.mk (blk_grown (g := gb131) (o := .cells #[.string (⟨#[]⟩ : ByteArray), .string (⟨#[]⟩ : ByteArray), .string (⟨#[]⟩ : ByteArray), .int .i64 0, .string (⟨#[]⟩ : ByteArray), .int .u32 0, .int .u16 0, .int .u16 0, .int .u16 0, .int .u16 0, .int .u16 0, .int .u16 0, .int .u16 0, .int .u16 0, .int .i64 0, .bool false, .slice none 0 0, .bool false, .string (⟨#[]⟩ : ByteArray), .bool false, .string (⟨#[]⟩ : ByteArray)] 30 (0, 0)) (by (with_reducible repeat (first | refine blk_drewN ?_ _ | refine blk_drew ?_ | refine blk_alloc ?_ _)); exact BK131.out) hg (Kd.R_ne HO150.out BK131.out (by decide))); have n1_ := Aside0.mk (blk_grown (g := gb156) (o := .cells #[.string t132, .string t133, .string t134, .int .i64 t135, .string t136, .int .u32 t137, .int .u16 t138, .int .u16 t139, .int .u16 t140, .int .u16 t141, .int .u16 t142, .int .u16 t143, .int .u16 t144, .int .u16 t145, .int .i64 t146, .bool t147, .slice Ao15 t148.length co15, .bool t151, .string t152, .bool t153, .string t154] 30 (0, 0)) (by (with_reducible repeat (first | refine blk_drewN ?_ _ | refine blk_drew ?_ | refine blk_alloc ?_ _)); exact BK156.out) hg (Kd.R_ne HO150.out BK156.out (by decide))); have n2_ := Aside0.mk (hb); have n3_ := Aside0.mk (ho); clear BK131; clear BK156; clear HB; clear HO150; have BK131 := n0_; have BK156 := n1_; have HB := n2_; have HO159 := n3_; clear n0_ n1_ n2_ n3_; clear ho hb hg hat; obtain ⟨Ao20, co20, eo20⟩ := Kd.R_slice HO159.out; subst eo20; have hcz21_0 : w19.cell? ⟨gb156, 0, none⟩ = some (.string t132) := (blk_cell BK156.out 0).trans rfl; have hcz21_1 : w19.cell? ⟨gb156, 1, none⟩ = some (.string t133) := (blk_cell BK156.out 1).trans rfl; have hcz21_2 : w19.cell? ⟨gb156, 2, none⟩ = some (.string t134) := (blk_cell BK156.out 2).trans rfl; have hcz21_3 : w19.cell? ⟨gb156, 3, none⟩ = some (.int .i64 t135) := (blk_cell BK156.out 3).trans rfl; have hcz21_4 : w19.cell? ⟨gb156, 4, none⟩ = some (.string t136) := (blk_cell BK156.out 4).trans rfl; have hcz21_5 : w19.cell? ⟨gb156, 5, none⟩ = some (.int .u32 t137) := (blk_cell BK156.out 5).trans rfl; have hcz21_6 : w19.cell? ⟨gb156, 6, none⟩ = some (.int .u16 t138) := (blk_cell BK156.out 6).trans rfl; have hcz21_7 : w19.cell? ⟨gb156, 7, none⟩ = some (.int .u16 t139) := (blk_cell BK156.out 7).trans rfl; have hcz21_8 : w19.cell? ⟨gb156, 8, none⟩ = some (.int .u16 t140) := (blk_cell BK156.out 8).trans rfl; have hcz21_9 : w19.cell? ⟨gb156, 9, none⟩ = some (.int .u16 t141) := (blk_cell BK156.out 9).trans rfl; have hcz21_10 : w19.cell? ⟨gb156, 10, none⟩ = some (.int .u16 t142) := (blk_cell BK156.out 10).trans rfl; have hcz21_11 : w19.cell? ⟨gb156, 11, none⟩ = some (.int .u16 t143) := (blk_cell BK156.out 11).trans rfl; have hcz21_12 : w19.cell? ⟨gb156, 12, none⟩ = some (.int .u16 t144) := (blk_cell BK156.out 12).trans rfl; have hcz21_13 : w19.cell? ⟨gb156, 13, none⟩ = some (.int .u16 t145) := (blk_cell BK156.out 13).trans rfl; have hcz21_14 : w19.cell? ⟨gb156, 14, none⟩ = some (.int .i64 t146) := (blk_cell BK156.out 14).trans rfl; have hcz21_15 : w19.cell? ⟨gb156, 15, none⟩ = some (.bool t147) := (blk_cell BK156.out 15).trans rfl; have hcz21_16 : w19.cell? ⟨gb156, 16, none⟩ = some (.slice Ao15 t148.length co15) := (blk_cell BK156.out 16).trans rfl; have hcz21_17 : w19.cell? ⟨gb156, 17, none⟩ = some (.bool t151) := (blk_cell BK156.out 17).trans rfl; have hcz21_18 : w19.cell? ⟨gb156, 18, none⟩ = some (.string t152) := (blk_cell BK156.out 18).trans rfl; have hcz21_19 : w19.cell? ⟨gb156, 19, none⟩ = some (.bool t153) := (blk_cell BK156.out 19).trans rfl; have hcz21_20 : w19.cell? ⟨gb156, 20, none⟩ = some (.string t154) := (blk_cell BK156.out 20).trans rfl; have hfz21_0 := blk_frozen BK156.out 0; have hfz21_1 := blk_frozen BK156.out 1; have hfz21_2 := blk_frozen BK156.out 2; have hfz21_3 := blk_frozen BK156.out 3; have hfz21_4 := blk_frozen BK156.out 4; have hfz21_5 := blk_frozen BK156.out 5; have hfz21_6 := blk_frozen BK156.out 6; have hfz21_7 := blk_frozen BK156.out 7; have hfz21_8 := blk_frozen BK156.out 8; have hfz21_9 := blk_frozen BK156.out 9; have hfz21_10 := blk_frozen BK156.out 10; have hfz21_11 := blk_frozen BK156.out 11; have hfz21_12 := blk_frozen BK156.out 12; have hfz21_13 := blk_frozen BK156.out 13; have hfz21_14 := blk_frozen BK156.out 14; have hfz21_15 := blk_frozen BK156.out 15; have hfz21_16 := blk_frozen BK156.out 16; have hfz21_17 := blk_frozen BK156.out 17; have hfz21_18 := blk_frozen BK156.out 18; have hfz21_19 := blk_frozen BK156.out 19; have hfz21_20 := blk_frozen BK156.out 20) | ((with_reducible refine gate_store (t := 28) (p := 21) rfl ?_); refine store_event (t := 28) (p := 21) (v := ?vo_w22) (w1 := (w19.setCell ⟨gb156, 16, none⟩ (.slice Ao20 y157.length co20))) ?hg ?ho ?hn ?hr ?_; (case ho => rfl); (case hg => rfl); (case hn => rfl); (case hr => first | (go_simp; done) | (go_simp; rfl)); intro w22 hw; have n0_ : Aside0 (Kd.R Kd.string 9 w22 w.heap.size (fun _ => True) (.slice Ao20 y157.length co20) y157) := ⟨(by rw [hw]; exact (by (with_reducible repeat (first | apply Kd.R_alloc | apply Kd.R_drewN | apply Kd.R_drew)); exact Kd.R_mono (Kd.R_far (p := ⟨gb156, 16, none⟩) (Kd.R_types HO159.out BK156.out (by decide)) (fun _ hk => hk.2) (.slice Ao20 y157.length co20)) (fun _ hk => trivial)))⟩; have n1_ : Aside0 (w22.heap[gb131]? = some (.cells #[.string (⟨#[]⟩ : ByteArray), .string (⟨#[]⟩ : ByteArray), .string (⟨#[]⟩ : ByteArray), .int .i64 0, .string (⟨#[]⟩ : ByteArray), .int .u32 0, .int .u16 0, .int .u16 0, .int .u16 0, .int .u16 0, .int .u16 0, .int .u16 0, .int .u16 0, .int .u16 0, .int .i64 0, .bool false, .slice none 0 0, .bool false, .string (⟨#[]⟩ : ByteArray), .bool false, .string (⟨#[]⟩ : ByteArray)] 30 (0, 0))) := ⟨(by rw [hw]; exact (by (with_reducible repeat (first | refine blk_drewN ?_ _ | refine blk_drew ?_ | refine blk_alloc ?_ _)); refine blk_far ?_ NB131_156.out _; (with_reducible repeat (first | refine blk_drewN ?_ _ | refine blk_drew ?_ | refine blk_alloc ?_ _)); exact BK131.out))⟩; have n2_ : Aside0 (w22.heap[gb156]? = some (.cells #[.string t132, .string t133, .string t134, .int .i64 t135, .string t136, .int .u32 t137, .int .u16 t138, .int .u16 t139, .int .u16 t140, .int .u16 t141, .int .u16 t142, .int .u16 t143, .int .u16 t144, .int .u16 t145, .int .i64 t146, .bool t147, .slice Ao20 y157.length co20, .bool t151, .string t152, .bool t153, .string t154] 30 (0, 0))) := ⟨(by rw [hw]; exact (by (with_reducible repeat (first | refine blk_drewN ?_ _ | refine blk_drew ?_ | refine blk_alloc ?_ _)); refine blk_put (cs := #[.string t132, .string t133, .string t134, .int .i64 t135, .string t136, .int .u32 t137, .int .u16 t138, .int .u16 t139, .int .u16 t140, .int .u16 t141, .int .u16 t142, .int .u16 t143, .int .u16 t144, .int .u16 t145, .int .i64 t146, .bool t147, .slice Ao15 t148.length co15, .bool t151, .string t152, .bool t153, .string t154]) ?_ 16 _ rfl; (with_reducible repeat (first | refine blk_drewN ?_ _ | refine blk_drew ?_ | refine blk_alloc ?_ _)); exact BK156.out))⟩; have n3_ : Aside0 (Below w.heap.size w w22) := ⟨(by rw [hw]; exact (by repeat (first | (with_reducible first | exact HB.out | apply below_alloc | apply pw_below_drewN | apply below_drew1 | refine below_set ?_ GE131.out | refine below_set ?_ GE156.out) | exact HB.out)))⟩; clear hw; clear HO159; clear BK131; clear BK156; clear HB; have HO159 := n0_; have BK131 := n1_; have BK156 := n2_; have HB := n3_; clear n0_ n1_ n2_ n3_) | ((with_reducible refine gate_dst (N := 22) rfl ?_); (try (refine gate_guard (by rfl) ?_; dsimp only)); (with_reducible refine gate_load (t := 30) (p := 4) (N := 22) rfl rfl ?_); refine load_event (t := 30) (p := 4) (g := gb156) (T := 30) (cs := #[.string t132, .string t133, .string t134, .int .i64 t135, .string t136, .int .u32 t137, .int .u16 t138, .int .u16 t139, .int .u16 t140, .int .u16 t141, .int .u16 t142, .int .u16 t143, .int .u16 t144, .int .u16 t145, .int .i64 t146, .bool t147, .slice Ao20 y157.length co20, .bool t151, .string t152, .bool t153, .string t154]) ?hg ?ho ?hp ?hb Tryd.underlying30 rfl ?hi ?_; (case ho => rfl); (case hg => rfl); (case hp => rfl); (case hb => exact (by (with_reducible repeat (first | refine blk_drewN ?_ _ | refine blk_drew ?_ | refine blk_alloc ?_ _)); exact BK156.out)); (case hi => kernel_rfl)) | ((with_reducible refine gate_store (t := 30) (p := 2) rfl ?_); refine whole_event (t := 30) (p := 2) (v := ?vo_w23) (u := ?vu_w23) (g := gb131) (cs := #[.string t132, .string t133, .string t134, .int .i64 t135, .string t136, .int .u32 t137, .int .u16 t138, .int .u16 t139, .int .u16 t140, .int .u16 t141, .int .u16 t142, .int .u16 t143, .int .u16 t144, .int .u16 t145, .int .i64 t146, .bool t147, .slice Ao20 y157.length co20, .bool t151, .string t152, .bool t153, .string t154]) ?hg ?ho ?hn ?hp ?hv ?hu BK131.out ?hs ?ht ?h1 ?_; (case ho => rfl); (case hg => rfl); (case hn => rfl); (case hp => rfl); (case hv => rfl); (case hu => rfl); (case hs => rfl); (case ht => kernel_rfl); (case h1 => rfl); intro w23 hbox hwk; have n0_ := Aside0.mk (blk_whole (k := gb156) (o := .cells #[.string t132, .string t133, .string t134, .int .i64 t135, .string t136, .int .u32 t137, .int .u16 t138, .int .u16 t139, .int .u16 t140, .int .u16 t141, .int .u16 t142, .int .u16 t143, .int .u16 t144, .int .u16 t145, .int .i64 t146, .bool t147, .slice Ao20 y157.length co20, .bool t151, .string t152, .bool t153, .string t154] 30 (0, 0)) (by (with_reducible repeat (first | refine blk_drewN ?_ _ | refine blk_drew ?_ | refine blk_alloc ?_ _)); exact BK156.out) hwk NB156_131.out); have n1_ := Aside0.mk (Kd.R_mono (Kd.R_step (Kd.R_types (by (with_reducible repeat (first | apply Kd.R_alloc | apply Kd.R_drewN | apply Kd.R_drew)); exact HO159.out) BK131.out (by decide)) (fun _ hk _ => hwk.2 _ hk.2)) (fun _ hk => hk.1)); have n2_ := Aside0.mk (hbox); have n3_ := Aside0.mk (hwk.below (by repeat (first | (with_reducible first | exact HB.out | apply below_alloc | apply pw_below_drewN | apply below_drew1 | refine below_set ?_ GE131.out | refine below_set ?_ GE156.out) | exact HB.out)) GE131.out); clear BK156; clear HO159; clear BK131; clear HB; have BK156 := n0_; have HO159 := n1_; have BK131 := n2_; have HB := n3_; clear n0_ n1_ n2_ n3_; clear hbox hwk))
        refine bodyPost_ret (results_ct rfl _ _ gb131 30 #[.string t132, .string t133, .string t134, .int .i64 t135, .string t136, .int .u32 t137, .int .u16 t138, .int .u16 t139, .int .u16 t140, .int .u16 t141, .int .u16 t142, .int .u16 t143, .int .u16 t144, .int .u16 t145, .int .i64 t146, .bool t147, .slice Ao20 y157.length co20, .bool t151, .string t152, .bool t153, .string t154] (0, 0) _ rfl (by (with_reducible repeat (first | refine blk_drewN ?_ _ | refine blk_drew ?_ | refine blk_alloc ?_ _)); exact BK131.out) Tryd.underlying30 rfl (by kernel_rfl)) rfl ?_
        exact ⟨_, by first | rfl | (simp [errW_none, errW_some] <;> rfl) | (simp [*, errW_none, errW_some] <;> rfl), by (with_reducible repeat (first | apply Kd.R_alloc | apply Kd.R_drewN | apply Kd.R_drew)); exact HO159.out, by repeat (first | (with_reducible first | exact HB.out | apply below_alloc | apply pw_below_drewN | apply below_drew1 | refine below_set ?_ GE131.out | refine below_set ?_ GE156.out) | exact HB.out)⟩
      · rw [if_neg c11] at H
        exact absurd H (by simp)
  · rw [if_neg c3] at H
    have c3b0 : (t155 == 0) = false := beq_eq_false_iff_ne.mpr c3
    have c3b1 : (t155 != 0) = true := bne_iff_ne.mpr c3
    simp only [Option.some.injEq, Prod.mk.injEq] at H
    obtain ⟨rfl, rfl, rfl, rfl, rfl, rfl, rfl, rfl, rfl, rfl, rfl, rfl, rfl, rfl, rfl, rfl, rfl, rfl, rfl, rfl, rfl, rfl⟩ := H
    go_enter Tryd.func7, Tryd.ntmps7
    go_wp2_with (first | ((with_reducible refine gate_dst (N := 2) rfl ?_); refine box_event ?hg (N := 2) ?hd (cs := #[.string (⟨#[]⟩ : ByteArray), .string (⟨#[]⟩ : ByteArray), .string (⟨#[]⟩ : ByteArray), .int .i64 0, .string (⟨#[]⟩ : ByteArray), .int .u32 0, .int .u16 0, .int .u16 0, .int .u16 0, .int .u16 0, .int .u16 0, .int .u16 0, .int .u16 0, .int .u16 0, .int .i64 0, .bool false, .slice none 0 0, .bool false, .string (⟨#[]⟩ : ByteArray), .bool false, .string (⟨#[]⟩ : ByteArray)]) (t := 30) ?hr ?_; (case hd => rfl); (case hg => rfl); (case hr => first | (go_simp; done) | (go_simp; rfl)); intro gb131 hg w24 hbox hb; have n0_ := Aside0.mk (below_step (by repeat (first | (with_reducible first | exact HB.out | apply below_alloc | apply pw_below_drewN | apply below_drew1) | exact HB.out)) hb); have n1_ := Aside0.mk (hbox); have n2_ := Aside0.mk ((by rw [hg]; exact (below_size (by repeat (first | (with_reducible first | exact HB.out | apply below_alloc | apply pw_below_drewN | apply below_drew1) | exact HB.out))) : w.heap.size ≤ gb131)); have n3_ := Aside0.mk ((by rw [hg]; exact (below_size (by repeat (first | (with_reducible first | exact HB.out | apply below_alloc | apply pw_below_drewN | apply below_drew1) | exact HB.out))) : w.heap.size ≤ gb131)); clear HB; have HB := n0_; have BK131 := n1_; have GW131 := n2_; have GE131 := n3_; clear n0_ n1_ n2_ n3_; clear hb hbox hg) | ((with_reducible refine gate_callee (f := 5) rfl ?_); refine goesL_ (some 8) rfl rfl Tryd.func5 (by kernel_rfl) rfl #[.string a0] rfl (by (try simp only [List.map_toArray, List.map_cons, List.map_nil]); first | done | rfl | (simp only [List.length_drop, List.length_take]; rfl)) ?_; (with_reducible refine (file_URL.calls k a0 t132 t133 t134 t135 t136 t137 t138 t139 t140 t141 t142 t143 t144 t145 t146 t147 t148 t151 t152 t153 t154 t155 _ ?side1 A2.out).mono ?_); (case side1 => exact EnvOK.step HE.out (by repeat (first | (with_reducible first | exact HB.out | apply below_alloc | apply pw_below_drewN | apply below_drew1 | refine below_set ?_ GE131.out) | exact HB.out))); rintro e w25 ⟨v149, rfl, ho0, hb⟩; refine ⟨_, rfl, ?_⟩; have n0_ := Aside0.mk (Kd.R_lower ho0 (below_size (by repeat (first | (with_reducible first | exact HB.out | apply below_alloc | apply pw_below_drewN | apply below_drew1 | refine below_set ?_ GE131.out) | exact HB.out)))); have n1_ := Aside0.mk (blk_below (g := gb131) (o := .cells #[.string (⟨#[]⟩ : ByteArray), .string (⟨#[]⟩ : ByteArray), .string (⟨#[]⟩ : ByteArray), .int .i64 0, .string (⟨#[]⟩ : ByteArray), .int .u32 0, .int .u16 0, .int .u16 0, .int .u16 0, .int .u16 0, .int .u16 0, .int .u16 0, .int .u16 0, .int .u16 0, .int .i64 0, .bool false, .slice none 0 0, .bool false, .string (⟨#[]⟩ : ByteArray), .bool false, .string (⟨#[]⟩ : ByteArray)] 30 (0, 0)) (by (with_reducible repeat (first | refine blk_drewN ?_ _ | refine blk_drew ?_ | refine blk_alloc ?_ _)); exact BK131.out) hb); have n2_ := Aside0.mk (below_step (by repeat (first | (with_reducible first | exact HB.out | apply below_alloc | apply pw_below_drewN | apply below_drew1 | refine below_set ?_ GE131.out) | exact HB.out)) hb); clear BK131; clear HB; have HO150 := n0_; have BK131 := n1_; have HB := n2_; clear n0_ n1_ n2_; (try clear hb); (try clear hb2); (try clear hk); (try clear hi); (try clear ho0)) | ((with_reducible refine gate_dst (N := 4) rfl ?_); refine box_event ?hg (N := 4) ?hd (cs := #[.string (⟨#[]⟩ : ByteArray), .string (⟨#[]⟩ : ByteArray), .string (⟨#[]⟩ : ByteArray), .int .i64 0, .string (⟨#[]⟩ : ByteArray), .int .u32 0, .int .u16 0, .int .u16 0, .int .u16 0, .int .u16 0, .int .u16 0, .int .u16 0, .int .u16 0, .int .u16 0, .int .i64 0, .bool false, .slice none 0 0, .bool false, .string (⟨#[]⟩ : ByteArray), .bool false, .string (⟨#[]⟩ : ByteArray)]) (t := 30) ?hr ?_; (case hd => rfl); (case hg => rfl); (case hr => first | (go_simp; done) | (go_simp; rfl)); intro gb156 hg w26 hbox hb; have n0_ := Aside0.mk (Kd.R_below (by (with_reducible repeat (first | apply Kd.R_alloc | apply Kd.R_drewN | apply Kd.R_drew)); exact HO150.out) hb); have n1_ := Aside0.mk (blk_below (g := gb131) (o := .cells #[.string (⟨#[]⟩ : ByteArray), .string (⟨#[]⟩ : ByteArray), .string (⟨#[]⟩ : ByteArray), .int .i64 0, .string (⟨#[]⟩ : ByteArray), .int .u32 0, .int .u16 0, .int .u16 0, .int .u16 0, .int .u16 0, .int .u16 0, .int .u16 0, .int .u16 0, .int .u16 0, .int .i64 0, .bool false, .slice none 0 0, .bool false, .string (⟨#[]⟩ : ByteArray), .bool false, .string (⟨#[]⟩ : ByteArray)] 30 (0, 0)) (by (with_reducible repeat (first | refine blk_drewN ?_ _ | refine blk_drew ?_ | refine blk_alloc ?_ _)); exact BK131.out) hb); have n2_ := Aside0.mk (below_step (by repeat (first | (with_reducible first | exact HB.out | apply below_alloc | apply pw_below_drewN | apply below_drew1 | refine below_set ?_ GE131.out) | exact HB.out)) hb); have n3_ := Aside0.mk (hbox); have n4_ := Aside0.mk ((by rw [hg]; exact (below_size (by repeat (first | (with_reducible first | exact HB.out | apply below_alloc | apply pw_below_drewN | apply below_drew1 | refine below_set ?_ GE131.out) | exact HB.out))) : w.heap.size ≤ gb156)); have n5_ := Aside0.mk ((by rw [hg]; exact (below_size (by repeat (first | (with_reducible first | exact HB.out | apply below_alloc | apply pw_below_drewN | apply below_drew1 | refine below_set ?_ GE131.out) | exact HB.out))) : w.heap.size ≤ gb156)); have n6_ := Aside0.mk ((by rw [hg]; exact Nat.ne_of_lt (blk_lt (g := gb131) (o := .cells #[.string (⟨#[]⟩ : ByteArray), .string (⟨#[]⟩ : ByteArray), .string (⟨#[]⟩ : ByteArray), .int .i64 0, .string (⟨#[]⟩ : ByteArray), .int .u32 0, .int .u16 0, .int .u16 0, .int .u16 0, .int .u16 0, .int .u16 0, .int .u16 0, .int .u16 0, .int .u16 0, .int .i64 0, .bool false, .slice none 0 0, .bool false, .string (⟨#[]⟩ : ByteArray), .bool false, .string (⟨#[]⟩ : ByteArray)] 30 (0, 0)) (by (with_reducible repeat (first | refine blk_drewN ?_ _ | refine blk_drew ?_ | refine blk_alloc ?_ _)); exact BK131.out)) : gb131 ≠ gb156)); have n7_ := Aside0.mk ((by rw [hg]; exact Nat.ne_of_gt (blk_lt (g := gb131) (o := .cells #[.string (⟨#[]⟩ : ByteArray), .string (⟨#[]⟩ : ByteArray), .string (⟨#[]⟩ : ByteArray), .int .i64 0, .string (⟨#[]⟩ : ByteArray), .int .u32 0, .int .u16 0, .int .u16 0, .int .u16 0, .int .u16 0, .int .u16 0, .int .u16 0, .int .u16 0, .int .u16 0, .int .i64 0, .bool false, .slice none 0 0, .bool false, .string (⟨#[]⟩ : ByteArray), .bool false, .string (⟨#[]⟩ : ByteArray)] 30 (0, 0)) (by (with_reducible repeat (first | refine blk_drewN ?_ _ | refine blk_drew ?_ | refine blk_alloc ?_ _)); exact BK131.out)) : gb156 ≠ gb131)); clear HO150; clear BK131; clear HB; have HO150 := n0_; have BK131 := n1_; have HB := n2_; have BK156 := n3_; have GW156 := n4_; have GE156 := n5_; have NB131_156 := n6_; have NB156_131 := n7_; clear n0_ n1_ n2_ n3_ n4_ n5_ n6_ n7_; clear hb hbox hg; obtain ⟨Ao27, co27, eo27⟩ := Kd.R_slice HO150.out; subst eo27) | ((with_reducible refine gate_store (t := 30) (p := 4) rfl ?_); refine whole_event (t := 30) (p := 4) (v := ?vo_w28) (u := ?vu_w28) (g := gb156) (cs := #[.string t132, .string t133, .string t134, .int .i64 t135, .string t136, .int .u32 t137, .int .u16 t138, .int .u16 t139, .int .u16 t140, .int .u16 t141, .int .u16 t142, .int .u16 t143, .int .u16 t144, .int .u16 t145, .int .i64 t146, .bool t147, .slice Ao27 t148.length co27, .bool t151, .string t152, .bool t153, .string t154]) ?hg ?ho ?hn ?hp ?hv ?hu BK156.out ?hs ?ht ?h1 ?_; (case ho => rfl); (case hg => rfl); (case hn => rfl); (case hp => rfl); (case hv => rfl); (case hu => rfl); (case hs => rfl); (case ht => kernel_rfl); (case h1 => rfl); intro w28 hbox hwk; have n0_ := Aside0.mk (blk_whole (k := gb131) (o := .cells #[.string (⟨#[]⟩ : ByteArray), .string (⟨#[]⟩ : ByteArray), .string (⟨#[]⟩ : ByteArray), .int .i64 0, .string (⟨#[]⟩ : ByteArray), .int .u32 0, .int .u16 0, .int .u16 0, .int .u16 0, .int .u16 0, .int .u16 0, .int .u16 0, .int .u16 0, .int .u16 0, .int .i64 0, .bool false, .slice none 0 0, .bool false, .string (⟨#[]⟩ : ByteArray), .bool false, .string (⟨#[]⟩ : ByteArray)] 30 (0, 0)) (by (with_reducible repeat (first | refine blk_drewN ?_ _ | refine blk_drew ?_ | refine blk_alloc ?_ _)); exact BK131.out) hwk NB131_156.out); have n1_ := Aside0.mk (Kd.R_mono (Kd.R_step (Kd.R_types (by (with_reducible repeat (first | apply Kd.R_alloc | apply Kd.R_drewN | apply Kd.R_drew)); exact HO150.out) BK156.out (by decide)) (fun _ hk _ => hwk.2 _ hk.2)) (fun _ hk => hk.1)); have n2_ := Aside0.mk (hbox); have n3_ := Aside0.mk (hwk.below (by repeat (first | (with_reducible first | exact HB.out | apply below_alloc | apply pw_below_drewN | apply below_drew1 | refine below_set ?_ GE131.out | refine below_set ?_ GE156.out) | exact HB.out)) GE156.out); clear BK131; clear HO150; clear BK156; clear HB; have BK131 := n0_; have HO150 := n1_; have BK156 := n2_; have HB := n3_; clear n0_ n1_ n2_ n3_; clear hbox hwk) | ((with_reducible refine gate_dst (N := 22) rfl ?_); (try (refine gate_guard (by rfl) ?_; dsimp only)); (with_reducible refine gate_load (t := 30) (p := 4) (N := 22) rfl rfl ?_); refine load_event (t := 30) (p := 4) (g := gb156) (T := 30) (cs := #[.string t132, .string t133, .string t134, .int .i64 t135, .string t136, .int .u32 t137, .int .u16 t138, .int .u16 t139, .int .u16 t140, .int .u16 t141, .int .u16 t142, .int .u16 t143, .int .u16 t144, .int .u16 t145, .int .i64 t146, .bool t147, .slice Ao27 t148.length co27, .bool t151, .string t152, .bool t153, .string t154]) ?hg ?ho ?hp ?hb Tryd.underlying30 rfl ?hi ?_; (case ho => rfl); (case hg => rfl); (case hp => rfl); (case hb => exact (by (with_reducible repeat (first | refine blk_drewN ?_ _ | refine blk_drew ?_ | refine blk_alloc ?_ _)); exact BK156.out)); (case hi => kernel_rfl)) | ((with_reducible refine gate_store (t := 30) (p := 2) rfl ?_); refine whole_event (t := 30) (p := 2) (v := ?vo_w29) (u := ?vu_w29) (g := gb131) (cs := #[.string t132, .string t133, .string t134, .int .i64 t135, .string t136, .int .u32 t137, .int .u16 t138, .int .u16 t139, .int .u16 t140, .int .u16 t141, .int .u16 t142, .int .u16 t143, .int .u16 t144, .int .u16 t145, .int .i64 t146, .bool t147, .slice Ao27 t148.length co27, .bool t151, .string t152, .bool t153, .string t154]) ?hg ?ho ?hn ?hp ?hv ?hu BK131.out ?hs ?ht ?h1 ?_; (case ho => rfl); (case hg => rfl); (case hn => rfl); (case hp => rfl); (case hv => rfl); (case hu => rfl); (case hs => rfl); (case ht => kernel_rfl); (case h1 => rfl); intro w29 hbox hwk; have n0_ := Aside0.mk (Kd.R_mono (Kd.R_step (Kd.R_types (by (with_reducible repeat (first | apply Kd.R_alloc | apply Kd.R_drewN | apply Kd.R_drew)); exact HO150.out) BK131.out (by decide)) (fun _ hk _ => hwk.2 _ hk.2)) (fun _ hk => hk.1)); have n1_ := Aside0.mk (blk_whole (k := gb156) (o := .cells #[.string t132, .string t133, .string t134, .int .i64 t135, .string t136, .int .u32 t137, .int .u16 t138, .int .u16 t139, .int .u16 t140, .int .u16 t141, .int .u16 t142, .int .u16 t143, .int .u16 t144, .int .u16 t145, .int .i64 t146, .bool t147, .slice Ao27 t148.length co27, .bool t151, .string t152, .bool t153, .string t154] 30 (0, 0)) (by (with_reducible repeat (first | refine blk_drewN ?_ _ | refine blk_drew ?_ | refine blk_alloc ?_ _)); exact BK156.out) hwk NB156_131.out); have n2_ := Aside0.mk (hbox); have n3_ := Aside0.mk (hwk.below (by repeat (first | (with_reducible first | exact HB.out | apply below_alloc | apply pw_below_drewN | apply below_drew1 | refine below_set ?_ GE131.out | refine below_set ?_ GE156.out) | exact HB.out)) GE131.out); clear HO150; clear BK156; clear BK131; clear HB; have HO150 := n0_; have BK156 := n1_; have BK131 := n2_; have HB := n3_; clear n0_ n1_ n2_ n3_; clear hbox hwk))
    refine bodyPost_ret (results_ct rfl _ _ gb131 30 #[.string t132, .string t133, .string t134, .int .i64 t135, .string t136, .int .u32 t137, .int .u16 t138, .int .u16 t139, .int .u16 t140, .int .u16 t141, .int .u16 t142, .int .u16 t143, .int .u16 t144, .int .u16 t145, .int .i64 t146, .bool t147, .slice Ao27 t148.length co27, .bool t151, .string t152, .bool t153, .string t154] (0, 0) _ rfl (by (with_reducible repeat (first | refine blk_drewN ?_ _ | refine blk_drew ?_ | refine blk_alloc ?_ _)); exact BK131.out) Tryd.underlying30 rfl (by kernel_rfl)) rfl ?_
    exact ⟨_, by first | rfl | (simp [errW_none, errW_some] <;> rfl) | (simp [*, errW_none, errW_some] <;> rfl), by (with_reducible repeat (first | apply Kd.R_alloc | apply Kd.R_drewN | apply Kd.R_drew)); exact HO150.out, by repeat (first | (with_reducible first | exact HB.out | apply below_alloc | apply pw_below_drewN | apply below_drew1 | refine below_set ?_ GE131.out | refine below_set ?_ GE156.out) | exact HB.out)⟩

/-! ### strings_ToLower: function 23 (given) -/
-- CALLS
def strings_ToLower.f (a0 : ByteArray) : Option ByteArray := if a0.size ≤ 140737488355328 then (if a0.data.toList.all (fun b => decide (b.toNat < 128)) = true then some ⟨(Go.Lib.toLowerA a0.data.toList).toArray⟩ else none) else none
theorem strings_ToLower.calls (a0 : ByteArray) (r : ByteArray) (w : World) (h : strings_ToLower.f a0 = some r) :
    Calls Tryd.prog 23 #[.string a0] w fun e w' => e = .returned (.string r) ∧ Below w.heap.size w w' := by
  unfold strings_ToLower.f at h
  by_cases h1 : a0.size ≤ 140737488355328
  · rw [if_pos h1] at h
    by_cases h2 : a0.data.toList.all (fun b => decide (b.toNat < 128)) = true
    · rw [if_pos h2] at h
      obtain rfl := Option.some.inj h
      refine Tryd.strings_ToLower_ascii a0 w h1 (fun j b hb => ?_)
      rw [List.all_eq_true] at h2
      exact of_decide_eq_true (h2 b (List.mem_of_getElem? hb))
    · rw [if_neg h2] at h; cases h
  · rw [if_neg h1] at h; cases h


/-! ### stringslite_Index: function 51 (given) -/
def stringslite_Index.f (a0 a1 : ByteArray) : Option Int := if a0.size < 4294967281 then some (Go.Lib.index a0.data.toList a1.data.toList) else none
theorem stringslite_Index.calls (a0 a1 : ByteArray) (r : Int) (w : World) (hE : EnvOK w) (h : stringslite_Index.f a0 a1 = some r) :
    Calls Tryd.prog 51 #[.string a0, .string a1] w fun e w' => e = .returned (.int .i64 r) ∧ Drawn0 w w' := by
  unfold stringslite_Index.f at h
  by_cases h1 : a0.size < 4294967281
  · rw [if_pos h1] at h
    obtain rfl := Option.some.inj h
    obtain ⟨m, hm⟩ := hE.maxLen
    exact (Tryd.stringslite_Index a0 a1 m w h1 hm).mono fun e w' ⟨he, hw⟩ => ⟨he, hw ▸ Drawn0.refl _⟩
  · rw [if_neg h1] at h
    cases h



/-! ### strings_Index: function 38 -/
def strings_Index.f (a0 : ByteArray) (a1 : ByteArray) : Option (Int) := (stringslite_Index.f a0 a1).bind fun t160 => (some t160)
set_option maxHeartbeats 8000000 in
set_option maxRecDepth 100000 in
theorem strings_Index.calls (a0 : ByteArray) (a1 : ByteArray) (r : Int) (w : World) (hE : EnvOK w) (h : strings_Index.f a0 a1 = some r) :
    Calls Tryd.prog 38 #[.string a0, .string a1] w fun e w' => e = .returned (.int .i64 r) ∧ Drawn0 w w' := by
  have HE := Aside0.mk hE
  clear hE
  have H : ((stringslite_Index.f a0 a1).bind fun t160 => (some t160)) = some r := h
  clear h
  replace H := Option.bind_eq_some_iff.mp H
  obtain ⟨t160, A30, H⟩ := H
  replace H : (some t160) = some r := H
  have A3 := Aside0.mk A30
  clear A30
  obtain rfl := Option.some.inj H
  go_enter Tryd.func38, Tryd.ntmps38
  go_wp2_with (first | ((with_reducible refine gate_callee (f := 51) rfl ?_); refine goesL_ (some 7) rfl rfl Tryd.func51 (by kernel_rfl) rfl #[.string a0, .string a1] rfl (by (try simp only [List.map_toArray, List.map_cons, List.map_nil]); first | done | rfl | (simp only [List.length_drop, List.length_take]; rfl)) ?_; (with_reducible refine (stringslite_Index.calls a0 a1 t160 _ ?side1 A3.out).mono ?_); (case side1 => exact EnvOK.drawn HE.out (by repeat (first | exact Drawn0.refl _ | apply Drawn0.step))); rintro e w' ⟨rfl, ⟨nd, rfl⟩⟩; refine ⟨_, rfl, ?_⟩))
  go_ret
  exact ⟨by first | rfl | (simp; done) | (simp [*]; done), by repeat (first | exact Drawn0.refl _ | apply Drawn0.step)⟩

/-! ### strings_Contains: function 24 -/
def strings_Contains.f (a0 : ByteArray) (a1 : ByteArray) : Option (Bool) := (strings_Index.f a0 a1).bind fun t161 => (some (decide (t161 ≥ 0)))
set_option maxHeartbeats 8000000 in
set_option maxRecDepth 100000 in
theorem strings_Contains.calls (a0 : ByteArray) (a1 : ByteArray) (r : Bool) (w : World) (hE : EnvOK w) (h : strings_Contains.f a0 a1 = some r) :
    Calls Tryd.prog 24 #[.string a0, .string a1] w fun e w' => e = .returned (.bool r) ∧ Drawn0 w w' := by
  have HE := Aside0.mk hE
  clear hE
  have H : ((strings_Index.f a0 a1).bind fun t161 => (some (decide (t161 ≥ 0)))) = some r := h
  clear h
  replace H := Option.bind_eq_some_iff.mp H
  obtain ⟨t161, A30, H⟩ := H
  replace H : (some (decide (t161 ≥ 0))) = some r := H
  have A3 := Aside0.mk A30
  clear A30
  obtain rfl := Option.some.inj H
  go_enter Tryd.func24, Tryd.ntmps24
  go_wp2_with (first | ((with_reducible refine gate_callee (f := 38) rfl ?_); refine goesL_ (some 7) rfl rfl Tryd.func38 (by kernel_rfl) rfl #[.string a0, .string a1] rfl (by (try simp only [List.map_toArray, List.map_cons, List.map_nil]); first | done | rfl | (simp only [List.length_drop, List.length_take]; rfl)) ?_; (with_reducible refine (strings_Index.calls a0 a1 t161 _ ?side1 A3.out).mono ?_); (case side1 => exact EnvOK.drawn HE.out (by repeat (first | exact Drawn0.refl _ | apply Drawn0.step))); rintro e w' ⟨rfl, ⟨nd, rfl⟩⟩; refine ⟨_, rfl, ?_⟩))
  go_ret
  exact ⟨by first | rfl | (simp; done) | (simp [*]; done), by repeat (first | exact Drawn0.refl _ | apply Drawn0.step)⟩

/-! ### strings_Join: function 25 (given) -/
-- CALLS
def strings_Join.f (l0 : List ByteArray) (a1 : ByteArray) : Option ByteArray := if (Go.Lib.join (l0.map (·.data.toList)) a1.data.toList).length ≤ 140737488355328 then (if l0.length ≤ 140737488355328 then some ⟨(Go.Lib.join (l0.map (·.data.toList)) a1.data.toList).toArray⟩ else none) else none
theorem strings_Join.calls (A0 : Option Addr) (c0 : Nat) (l0 : List ByteArray) (a1 : ByteArray) (r : ByteArray) (w : World) (hr0 : Kd.C Kd.string w A0 l0.length l0) (hc0 : l0.length ≤ c0) (h : strings_Join.f l0 a1 = some r) :
    Calls Tryd.prog 25 #[.slice A0 l0.length c0, .string a1] w fun e w' => e = .returned (.string r) ∧ Below w.heap.size w w' := by
  unfold strings_Join.f at h
  by_cases h1 : (Go.Lib.join (l0.map (·.data.toList)) a1.data.toList).length ≤ 140737488355328
  · rw [if_pos h1] at h
    by_cases h2 : l0.length ≤ 140737488355328
    · rw [if_pos h2] at h
      obtain rfl := Option.some.inj h
      by_cases h0 : l0 = []
      · subst h0
        exact (Tryd.strings_Join_none A0 c0 a1 w).mono fun e w' ⟨he, hw⟩ => ⟨by rw [he]; rfl, hw ▸ Below.refl _ _⟩
      · obtain ⟨b, o, rfl, hb, hcell⟩ := YthnlgnnodgeneaaDoorL.strings_at hr0 (List.length_pos_iff.2 h0)
        exact Tryd.strings_Join b o c0 l0 a1 w hcell hb h2 hc0 h1
    · rw [if_neg h2] at h; cases h
  · rw [if_neg h1] at h; cases h



/-! ### pct_digit: function 52 -/
mutual
def pct_digit.j0 : Nat → Int → Bool → Option (Int × Bool)
  | 0, _, _ => none
  | k + 1, x0, x4 => if x4 = true then (some ((x0 - 48) % 256, true)) else (if x0 ≥ 97 then (pct_digit.j1 k x0 (decide (x0 ≤ 102))) else (pct_digit.j1 k x0 false))
def pct_digit.j1 : Nat → Int → Bool → Option (Int × Bool)
  | 0, _, _ => none
  | k + 1, x0, x13 => if x13 = true then (some ((((x0 - 97) % 256) + 10) % 256, true)) else (if x0 ≥ 65 then (if x0 ≤ 70 then (some ((((x0 - 65) % 256) + 10) % 256, true)) else (some (0, false))) else (some (0, false)))
end
def pct_digit.f (k : Nat) (a0 : Int) : Option (Int × Bool) := if a0 ≥ 48 then (pct_digit.j0 k a0 (decide (a0 ≤ 57))) else (pct_digit.j0 k a0 false)
theorem pct_digit.mono_l : ∀ k, (∀ y0 y1, LeO (pct_digit.j0 k y0 y1) (pct_digit.j0 (k + 1) y0 y1)) ∧ (∀ y0 y1, LeO (pct_digit.j1 k y0 y1) (pct_digit.j1 (k + 1) y0 y1))
  | 0 => ⟨fun _ _ r h => by simp [pct_digit.j0] at h, fun _ _ r h => by simp [pct_digit.j1] at h⟩
  | k + 1 => by
    obtain ⟨ih0, ih1⟩ := pct_digit.mono_l k
    refine ⟨?_, ?_⟩
    · intro y0 y1
      unfold pct_digit.j0
      repeat' first
      | (with_reducible exact ih0 _ _)
      | (with_reducible exact ih1 _ _)
      | (with_reducible exact LeO.refl _)
      | (with_reducible exact LeO.none _)
      | (with_reducible refine LeO.ite ?_ ?_)
      | (with_reducible refine LeO.bind ?_ (fun _ => ?_))
      | exact ih0 _ _
      | exact ih1 _ _
      | exact LeO.none _
      | refine LeO.ite ?_ ?_
      | refine LeO.bind ?_ (fun _ => ?_)
    · intro y0 y1
      unfold pct_digit.j1
      repeat' first
      | (with_reducible exact ih0 _ _)
      | (with_reducible exact ih1 _ _)
      | (with_reducible exact LeO.refl _)
      | (with_reducible exact LeO.none _)
      | (with_reducible refine LeO.ite ?_ ?_)
      | (with_reducible refine LeO.bind ?_ (fun _ => ?_))
      | exact ih0 _ _
      | exact ih1 _ _
      | exact LeO.none _
      | refine LeO.ite ?_ ?_
      | refine LeO.bind ?_ (fun _ => ?_)
theorem pct_digit.mono : ∀ a0 k, LeO (pct_digit.f k a0) (pct_digit.f (k + 1) a0) := by
  intro a0 k
  obtain ⟨ih0, ih1⟩ := pct_digit.mono_l k
  unfold pct_digit.f
  repeat' first
      | (with_reducible exact ih0 _ _)
      | (with_reducible exact ih1 _ _)
      | (with_reducible exact LeO.refl _)
      | (with_reducible exact LeO.none _)
      | (with_reducible refine LeO.ite ?_ ?_)
      | (with_reducible refine LeO.bind ?_ (fun _ => ?_))
      | exact ih0 _ _
      | exact ih1 _ _
      | exact LeO.none _
      | refine LeO.ite ?_ ?_
      | refine LeO.bind ?_ (fun _ => ?_)
set_option maxHeartbeats 8000000 in
set_option maxRecDepth 100000 in
theorem pct_digit.calls (k : Nat) (a0 : Int) (r1 : Int) (r2 : Bool) (w : World) (h : pct_digit.f k a0 = some (r1, r2)) :
    Calls Tryd.prog 52 #[.int .u8 a0] w fun e w' => e = .returned (.tuple #[.int .u8 r1, .bool r2]) ∧ Drawn0 w w' := by
  have H : (if a0 ≥ 48 then (pct_digit.j0 k a0 (decide (a0 ≤ 57))) else (pct_digit.j0 k a0 false)) = some (r1, r2) := h
  clear h
  have HC2 := Aside0.mk H
  clear H
  go_enter Tryd.func52, Tryd.ntmps52
  go_upto_region 1 with (fail)
  go_cut [4] (fun v4 wc => ∃ (kq : Nat) (x4_1 : Bool), v4 = .bool x4_1 ∧ Aside0 (pct_digit.j0 kq a0 x4_1 = some (r1, r2)) ∧ Aside0 (kq ≤ k) ∧ Drawn0 w wc)
  case first =>
    have H := HC2.out
    clear HC2
    by_cases c3 : a0 ≥ 48
    · rw [if_pos c3] at H
      have c3b0 : decide (48 ≤ a0) = true := decide_eq_true c3
      clear c3
      (first | rw [c3b0] | (simp only [i64_w, i32_w]; rw [c3b0]) | skip)
      have H' := Aside0.mk H
      clear H
      go_wp2
      go_meet
      case rel => exact ⟨_, (decide (a0 ≤ 57)), (by first | rfl | (simp; done) | (simp [*]; done)), H', ⟨by first | omega | exact Nat.le_refl _⟩, by repeat (first | exact Drawn0.refl _ | apply Drawn0.step)⟩
    · rw [if_neg c3] at H
      have c3b0 : decide (48 ≤ a0) = false := decide_eq_false c3
      clear c3
      (first | rw [c3b0] | (simp only [i64_w, i32_w]; rw [c3b0]) | skip)
      have H' := Aside0.mk H
      clear H
      go_wp2
      go_meet
      case rel => exact ⟨_, (false), (by first | rfl | (simp; done) | (simp [*]; done)), H', ⟨by first | omega | exact Nat.le_refl _⟩, by repeat (first | exact Drawn0.refl _ | apply Drawn0.step)⟩
  case rest =>
    clear HC2
    try clear p2
    try clear c3
    try clear c3b0
    obtain ⟨kq, x4_1, rfl, HA, HJ1, ⟨mc1, rfl⟩⟩ := hcut
    cases kq with
    | zero => exact absurd HA.out (by simp [pct_digit.j0])
    | succ kj1 =>
      have H := HA.out
      clear HA
      simp only [pct_digit.j0] at H
      by_cases c4 : x4_1 = true
      · subst c4
        have H1 : (some ((a0 - 48) % 256, true)) = some (r1, r2) := by rw [if_pos rfl] at H; exact H
        clear H
        have H := H1
        clear H1
        simp only [Option.some.injEq, Prod.mk.injEq] at H
        obtain ⟨rfl, rfl⟩ := H
        go_wp2
        go_ret2
        exact ⟨by first | rfl | (simp; done) | (simp [*]; done), by repeat (first | exact Drawn0.refl _ | apply Drawn0.step)⟩
      · replace c4 := Bool.eq_false_iff.mpr c4
        subst c4
        have H1 : (if a0 ≥ 97 then (pct_digit.j1 kj1 a0 (decide (a0 ≤ 102))) else (pct_digit.j1 kj1 a0 false)) = some (r1, r2) := by rw [if_neg (show ¬ (false = true) by decide)] at H; exact H
        clear H
        have H := H1
        clear H1
        have HC5 := Aside0.mk H
        clear H
        go_upto_region 3 with (fail)
        go_cut [13] (fun v13 wc => ∃ (kq : Nat) (x13_4 : Bool), v13 = .bool x13_4 ∧ Aside0 (pct_digit.j1 kq a0 x13_4 = some (r1, r2)) ∧ Aside0 (kq ≤ kj1) ∧ Drawn0 w wc)
        case first =>
          have H := HC5.out
          clear HC5
          by_cases c6 : a0 ≥ 97
          · rw [if_pos c6] at H
            have c6b0 : decide (97 ≤ a0) = true := decide_eq_true c6
            clear c6
            (first | rw [c6b0] | (simp only [i64_w, i32_w]; rw [c6b0]) | skip)
            have H' := Aside0.mk H
            clear H
            go_wp2
            go_meet
            case rel => exact ⟨_, (decide (a0 ≤ 102)), (by first | rfl | (simp; done) | (simp [*]; done)), H', ⟨by have := HJ1.out; first | omega | exact Nat.le_refl _⟩, by repeat (first | exact Drawn0.refl _ | apply Drawn0.step)⟩
          · rw [if_neg c6] at H
            have c6b0 : decide (97 ≤ a0) = false := decide_eq_false c6
            clear c6
            (first | rw [c6b0] | (simp only [i64_w, i32_w]; rw [c6b0]) | skip)
            have H' := Aside0.mk H
            clear H
            go_wp2
            go_meet
            case rel => exact ⟨_, (false), (by first | rfl | (simp; done) | (simp [*]; done)), H', ⟨by have := HJ1.out; first | omega | exact Nat.le_refl _⟩, by repeat (first | exact Drawn0.refl _ | apply Drawn0.step)⟩
        case rest =>
          clear HC5
          try clear c1
          try clear p2
          try clear c3
          try clear c3b0
          try clear c4
          try clear c5
          try clear c6
          try clear c6b0
          try clear p2
          obtain ⟨kq, x13_4, rfl, HA, HJ4, ⟨mc4, rfl⟩⟩ := hcut
          cases kq with
          | zero => exact absurd HA.out (by simp [pct_digit.j1])
          | succ kj4 =>
            have H := HA.out
            clear HA
            simp only [pct_digit.j1] at H
            by_cases c7 : x13_4 = true
            · subst c7
              have H1 : (some ((((a0 - 97) % 256) + 10) % 256, true)) = some (r1, r2) := by rw [if_pos rfl] at H; exact H
              clear H
              have H := H1
              clear H1
              simp only [Option.some.injEq, Prod.mk.injEq] at H
              obtain ⟨rfl, rfl⟩ := H
              go_wp2
              go_ret2
              exact ⟨by first | rfl | (simp; done) | (simp [*]; done), by repeat (first | exact Drawn0.refl _ | apply Drawn0.step)⟩
            · replace c7 := Bool.eq_false_iff.mpr c7
              subst c7
              have H1 : (if a0 ≥ 65 then (if a0 ≤ 70 then (some ((((a0 - 65) % 256) + 10) % 256, true)) else (some (0, false))) else (some (0, false))) = some (r1, r2) := by rw [if_neg (show ¬ (false = true) by decide)] at H; exact H
              clear H
              have H := H1
              clear H1
              by_cases c8 : a0 ≥ 65
              · rw [if_pos c8] at H
                have c8b0 : decide (65 ≤ a0) = true := decide_eq_true c8
                clear c8
                by_cases c9 : a0 ≤ 70
                · rw [if_pos c9] at H
                  have c9b0 : decide (a0 ≤ 70) = true := decide_eq_true c9
                  clear c9
                  simp only [Option.some.injEq, Prod.mk.injEq] at H
                  obtain ⟨rfl, rfl⟩ := H
                  go_wp2
                  go_ret2
                  exact ⟨by first | rfl | (simp; done) | (simp [*]; done), by repeat (first | exact Drawn0.refl _ | apply Drawn0.step)⟩
                · rw [if_neg c9] at H
                  have c9b0 : decide (a0 ≤ 70) = false := decide_eq_false c9
                  clear c9
                  simp only [Option.some.injEq, Prod.mk.injEq] at H
                  obtain ⟨rfl, rfl⟩ := H
                  go_wp2
                  go_ret2
                  exact ⟨by first | rfl | (simp; done) | (simp [*]; done), by repeat (first | exact Drawn0.refl _ | apply Drawn0.step)⟩
              · rw [if_neg c8] at H
                have c8b0 : decide (65 ≤ a0) = false := decide_eq_false c8
                clear c8
                simp only [Option.some.injEq, Prod.mk.injEq] at H
                obtain ⟨rfl, rfl⟩ := H
                go_wp2
                go_ret2
                exact ⟨by first | rfl | (simp; done) | (simp [*]; done), by repeat (first | exact Drawn0.refl _ | apply Drawn0.step)⟩

end Go.Proofs.YthnlgnnodgeneaaDoor.PF
