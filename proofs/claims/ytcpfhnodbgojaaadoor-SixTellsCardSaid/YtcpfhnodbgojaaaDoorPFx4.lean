-- WRITTEN BY A PROGRAM OF THIS SESSION (wip/tools/xprint.py, over the kit's print.py).
import Derived.Test.YtcpfhnodbgojaaaDoorPFx0
import Derived.Test.YtcpfhnodbgojaaaDoorPFx2
import Derived.Test.YtcpfhnodbgojaaaDoorPFx3
namespace Go.Proofs.YtcpfhnodbgojaaaDoor.PF
open Go.RowKit Go.Proofs.YtcpfhnodbgojaaaDoorW.PrintWords Go.Proofs.YtcpfhnodbgojaaaDoorW.PrintLast Go.Proofs.YtcpfhnodbgojaaaDoorW.PrintMore Go.Proofs.YtcpfhnodbgojaaaDoorE
attribute [local go_sem] max2_int min2_int max_two min_two max_three min_three max_four min_four   -- for this text's walks alone
set_option linter.unusedVariables false
set_option linter.unusedSimpArgs false

/-! ### ip6_spread: function 18 (given) -/
-- CALLS
def ip6_spread.L (a0_0 a0_1 a0_2 a0_3 a0_4 a0_5 a0_6 a0_7 : Int) (a1 a2 : Int) : List Int := YtcpfhnodbgojaaaDoorR.spreadL ([a0_0, a0_1, a0_2, a0_3, a0_4, a0_5, a0_6, a0_7] : List Int) a1.toNat a2.toNat
def ip6_spread.f (a0_0 a0_1 a0_2 a0_3 a0_4 a0_5 a0_6 a0_7 : Int) (a1 a2 : Int) : Option (Int × Int × Int × Int × Int × Int × Int × Int) := if 0 ≤ a1 ∧ a1 < a2 ∧ a2 ≤ 8 then some ((ip6_spread.L a0_0 a0_1 a0_2 a0_3 a0_4 a0_5 a0_6 a0_7 a1 a2).getD 0 0, (ip6_spread.L a0_0 a0_1 a0_2 a0_3 a0_4 a0_5 a0_6 a0_7 a1 a2).getD 1 0, (ip6_spread.L a0_0 a0_1 a0_2 a0_3 a0_4 a0_5 a0_6 a0_7 a1 a2).getD 2 0, (ip6_spread.L a0_0 a0_1 a0_2 a0_3 a0_4 a0_5 a0_6 a0_7 a1 a2).getD 3 0, (ip6_spread.L a0_0 a0_1 a0_2 a0_3 a0_4 a0_5 a0_6 a0_7 a1 a2).getD 4 0, (ip6_spread.L a0_0 a0_1 a0_2 a0_3 a0_4 a0_5 a0_6 a0_7 a1 a2).getD 5 0, (ip6_spread.L a0_0 a0_1 a0_2 a0_3 a0_4 a0_5 a0_6 a0_7 a1 a2).getD 6 0, (ip6_spread.L a0_0 a0_1 a0_2 a0_3 a0_4 a0_5 a0_6 a0_7 a1 a2).getD 7 0) else none
set_option maxHeartbeats 4000000 in
set_option maxRecDepth 100000 in
theorem ip6_spread.calls (a0_0 a0_1 a0_2 a0_3 a0_4 a0_5 a0_6 a0_7 : Int) (a1 a2 : Int) (r1 r2 r3 r4 r5 r6 r7 r8 : Int) (w : World) (h : ip6_spread.f a0_0 a0_1 a0_2 a0_3 a0_4 a0_5 a0_6 a0_7 a1 a2 = some (r1, r2, r3, r4, r5, r6, r7, r8)) :
    Calls Tryd.prog 18 #[.agg #[.int .u16 a0_0, .int .u16 a0_1, .int .u16 a0_2, .int .u16 a0_3, .int .u16 a0_4, .int .u16 a0_5, .int .u16 a0_6, .int .u16 a0_7], .int .i64 a1, .int .i64 a2] w fun e w' => e = .returned (.agg #[.int .u16 r1, .int .u16 r2, .int .u16 r3, .int .u16 r4, .int .u16 r5, .int .u16 r6, .int .u16 r7, .int .u16 r8]) ∧ Below w.heap.size w w' := by
  have hu24 := Tryd.underlying24
  have HB := Aside0.mk (Below.refl w.heap.size w)
  unfold ip6_spread.f at h
  by_cases hc : 0 ≤ a1 ∧ a1 < a2 ∧ a2 ≤ 8
  · rw [if_pos hc] at h
    obtain ⟨c1, c2, c3⟩ := hc
    obtain ⟨gap, hgap⟩ : ∃ n : Nat, a1 = (n : Int) := ⟨a1.toNat, by omega⟩
    obtain ⟨at_, hat⟩ : ∃ n : Nat, a2 = (n : Int) := ⟨a2.toNat, by omega⟩
    subst hgap hat
    have hL : YtcpfhnodbgojaaaDoorR.spreadL ([a0_0, a0_1, a0_2, a0_3, a0_4, a0_5, a0_6, a0_7] : List Int) gap at_ = ([r1, r2, r3, r4, r5, r6, r7, r8] : List Int) := by
      have h8 := YtcpfhnodbgojaaaDoorR.spread_len (ps := ([a0_0, a0_1, a0_2, a0_3, a0_4, a0_5, a0_6, a0_7] : List Int)) (gap := gap) (at_ := at_) rfl (by omega) (by omega)
      obtain ⟨x1, x2, x3, x4, x5, x6, x7, x8, hx⟩ := YtcpfhnodbgojaaaDoorR.eight h8
      unfold ip6_spread.L at h
      simp only [Int.toNat_natCast, hx] at h
      rw [hx]
      simp at h
      obtain ⟨rfl, rfl, rfl, rfl, rfl, rfl, rfl, rfl⟩ := h
      rfl
    clear h
    have hlt : gap < at_ := by omega
    have hle : at_ ≤ 8 := by omega
    clear c1 c2 c3
    obtain ⟨m, hm⟩ : ∃ m : Nat, m = at_ - gap - 1 := ⟨_, rfl⟩
    have hm8 : gap + m < 8 := by omega
    have hs1 : wrap64 ((at_ : Int) - (gap : Int)) = (at_ : Int) - (gap : Int) := by unfold wrap64; omega
    have hs2 : wrap64 ((at_ : Int) - (gap : Int) - 1) = (m : Int) := by unfold wrap64; omega
    have hs3 : wrap64 (8 - (m : Int)) = ((8 - m : Nat) : Int) := by unfold wrap64; omega
    have hs4 : wrap64 ((gap : Int) + 1) = (gap : Int) + 1 := by unfold wrap64; omega
    have hsa := fun gb W => YtcpfhnodbgojaaaDoorR.sl_all gb W
    have hsh := fun gb W => YtcpfhnodbgojaaaDoorR.sl_high gb gap (by omega) W
    have hlo : ∀ gb : Nat, ∃ A2 : Addr, (∀ W : World, (Instr.sliceAt 24 (.pointer (some ⟨gb, 0, none⟩)) (some (.int .i64 ((8 - m : Nat) : Int))) none none).run Tryd.prog W = .ok (.slice (some A2) m m) W) ∧ (0 < m → A2 = ⟨gb, 8 - m, none⟩) := by
      intro gb
      by_cases h0 : 0 < m
      · refine ⟨⟨gb, 8 - m, none⟩, fun W => ?_, fun _ => rfl⟩
        have := YtcpfhnodbgojaaaDoorR.sl_low gb (8 - m) (by omega) W
        rw [show 8 - (8 - m) = m by omega] at this
        exact this
      · have : m = 0 := by omega
        subst this
        exact ⟨⟨gb, 0, none⟩, fun W => YtcpfhnodbgojaaaDoorR.sl_low8 gb W, fun h => absurd h (by omega)⟩
    have hbo : ∀ gb : Nat, ∃ (A3 : Addr) (c3 : Nat), (∀ W : World, (Instr.sliceAt 24 (.pointer (some ⟨gb, 0, none⟩)) (some (.int .i64 ((gap : Int) + 1))) (some (.int .i64 (at_ : Int))) none).run Tryd.prog W = .ok (.slice (some A3) m c3) W) ∧ (0 < m → A3 = ⟨gb, gap + 1, none⟩) := by
      intro gb
      rw [show (gap : Int) + 1 = ((gap + 1 : Nat) : Int) by omega]
      by_cases h0 : gap + 1 < 8
      · refine ⟨⟨gb, gap + 1, none⟩, 8 - (gap + 1), fun W => ?_, fun _ => rfl⟩
        have := YtcpfhnodbgojaaaDoorR.sl_both gb (gap + 1) at_ (by omega) h0 hle W
        rw [show at_ - (gap + 1) = m by omega] at this
        exact this
      · have e1 : gap = 7 := by omega
        have e2 : at_ = 8 := by omega
        have e3 : m = 0 := by omega
        subst e1 e2 e3
        exact ⟨⟨gb, 0, none⟩, 0, fun W => YtcpfhnodbgojaaaDoorR.sl_both8 gb W, fun h => absurd h (by omega)⟩
    have hm' := Aside0.mk hm
    clear hm
    go_enter Tryd.func18, Tryd.ntmps18
    go_wp2_with (first | ((with_reducible refine gate_dst (N := 3) rfl ?_); refine box_event ?hg (N := 3) ?hd (cs := #[.int .u16 a0_0, .int .u16 a0_1, .int .u16 a0_2, .int .u16 a0_3, .int .u16 a0_4, .int .u16 a0_5, .int .u16 a0_6, .int .u16 a0_7]) (t := 24) ?hr ?_; (case hd => rfl); (case hg => rfl); (case hr => first | (go_simp; done) | (go_simp; rfl)); intro gp hg w3 hbox hb; have n0_ := Aside0.mk (below_step HB.out hb); have Ggp := Aside0.mk (by rw [hg]; exact (below_size HB.out) : w.heap.size ≤ gp); have Bgp := Aside0.mk hbox;  clear HB; have HB := n0_; clear n0_ hb hbox hg) | ((with_reducible refine gate_dst (N := 6) rfl ?_); refine box_event ?hg (N := 6) ?hd (cs := #[.int .u16 0, .int .u16 0, .int .u16 0, .int .u16 0, .int .u16 0, .int .u16 0, .int .u16 0, .int .u16 0]) (t := 24) ?hr ?_; (case hd => rfl); (case hg => rfl); (case hr => first | (go_simp; done) | (go_simp; rfl)); intro gr hg w6 hbox hb; have n0_ := Aside0.mk (below_step HB.out hb); have Ggr := Aside0.mk (by rw [hg]; exact (below_size HB.out) : w.heap.size ≤ gr); have Bgr := Aside0.mk hbox; have NBpr := Aside0.mk (by rw [hg]; exact Nat.ne_of_lt (blk_lt Bgp.out) : gp ≠ gr); have m0_ := Aside0.mk (blk_below Bgp.out hb); clear Bgp; have Bgp := m0_; clear m0_; clear HB; have HB := n0_; clear n0_ hb hbox hg) | ((with_reducible refine gate_dst (N := 7) rfl ?_); refine box_event ?hg (N := 7) ?hd (cs := #[.int .u16 0, .int .u16 0, .int .u16 0, .int .u16 0, .int .u16 0, .int .u16 0, .int .u16 0, .int .u16 0]) (t := 24) ?hr ?_; (case hd => rfl); (case hg => rfl); (case hr => first | (go_simp; done) | (go_simp; rfl)); intro go hg w7 hbox hb; have n0_ := Aside0.mk (below_step HB.out hb); have Ggo := Aside0.mk (by rw [hg]; exact (below_size HB.out) : w.heap.size ≤ go); have Bgo := Aside0.mk hbox; have NBpo := Aside0.mk (by rw [hg]; exact Nat.ne_of_lt (blk_lt Bgp.out) : gp ≠ go); have NBro := Aside0.mk (by rw [hg]; exact Nat.ne_of_lt (blk_lt Bgr.out) : gr ≠ go); have m0_ := Aside0.mk (blk_below Bgp.out hb); have m1_ := Aside0.mk (blk_below Bgr.out hb); clear Bgp Bgr; have Bgp := m0_; have Bgr := m1_; clear m0_ m1_; clear HB; have HB := n0_; clear n0_ hb hbox hg))
    obtain ⟨A2, hsl2, hA2⟩ := hlo go
    obtain ⟨A3, c3, hsl3, hA3⟩ := hbo gp
    have hsl0 := hsa go
    have hsl1 := hsh gp
    clear hlo hbo hsa hsh
    have hps : #[.int .u16 a0_0, .int .u16 a0_1, .int .u16 a0_2, .int .u16 a0_3, .int .u16 a0_4, .int .u16 a0_5, .int .u16 a0_6, .int .u16 a0_7] = YtcpfhnodbgojaaaDoorR.arr ([a0_0, a0_1, a0_2, a0_3, a0_4, a0_5, a0_6, a0_7] : List Int) := rfl
    have hzs : #[.int .u16 0, .int .u16 0, .int .u16 0, .int .u16 0, .int .u16 0, .int .u16 0, .int .u16 0, .int .u16 0] = YtcpfhnodbgojaaaDoorR.arr (List.replicate 8 0) := rfl
    have HD := Aside0.mk (below_drew1 HB.out)
    clear HB
    have HB := HD
    clear HD
    refine start_ (n := 4) (S := fun _ => True) (ds := []) #[false, false, false, false] (by kernel_rfl) rfl rfl trivial (fun hHeld => ?_)
    have Bgp1 := Aside0.mk (blk_drew Bgp.out)
    have Bgr1 := Aside0.mk (blk_drew Bgr.out)
    have Bgo1 := Aside0.mk (blk_drew Bgo.out)
    clear Bgp Bgr Bgo
    have Bgp := Bgp1
    have Bgr := Bgr1
    have Bgo := Bgo1
    clear Bgp1 Bgr1 Bgo1
    generalize w7.drew = w8 at HB Bgp Bgr Bgo hHeld ⊢
    refine pure_ (i := 0) (N := some 8) (v := ?_) (a' := ?_) #[true, false, false, false] rfl rfl (by kernel_rfl) (fun _ _ _ h => h) (Or.inl ⟨by rfl, ?_⟩) ?_ ?_
    rotate_left
    · intro w'
      go_simp
      first | with_reducible rfl | rfl
    rotate_left
    · simp only [Act.put, List.setIfInBounds_toArray, List.set_cons_zero, List.set_cons_succ, i64_w, i32_w]
      rfl
    refine pure_ (i := 1) (N := some 9) (v := ?_) (a' := ?_) #[true, true, false, false] rfl rfl (by kernel_rfl) (fun _ _ _ h => h) (Or.inl ⟨by rfl, ?_⟩) ?_ ?_
    rotate_left
    · intro w'
      go_simp
      first | with_reducible rfl | rfl
    rotate_left
    · simp only [Act.put, List.setIfInBounds_toArray, List.set_cons_zero, List.set_cons_succ, i64_w, i32_w]
      rfl
    refine pure_ (i := 2) (N := some 10) (v := ?_) (a' := ?_) #[true, true, true, false] rfl rfl (by kernel_rfl) (fun _ _ _ h => h) (Or.inl ⟨by rfl, ?_⟩) ?_ ?_
    rotate_left
    · intro w'
      go_simp
      first | with_reducible rfl | rfl
    rotate_left
    · simp only [Act.put, List.setIfInBounds_toArray, List.set_cons_zero, List.set_cons_succ, i64_w, i32_w]
      rfl
    refine one_ (i := 3) (N := some 11) #[true, true, true, true] rfl rfl (by kernel_rfl) (by decide) (fun K hK => ?_)
    refine YtcpfhnodbgojaaaDoorR.step_copy rfl (.tmp 8) (.tmp 10) 51 51 rfl 23 Tryd.underlying51 (by kernel_rfl) (some ⟨go, 0, none⟩) (some ⟨gp, 0, none⟩) 8 8 gap 8 rfl rfl go 0 ((List.replicate 8 0).map fun x => Value.int .u16 x) 24 Bgo.out ((([a0_0, a0_1, a0_2, a0_3, a0_4, a0_5, a0_6, a0_7] : List Int).take gap).map fun x => Value.int .u16 x) (by first | (simp; done) | (simp; omega)) (fun _ => ⟨rfl, _, rfl, YtcpfhnodbgojaaaDoorR.arr_src (lo := 0) (ps := ([a0_0, a0_1, a0_2, a0_3, a0_4, a0_5, a0_6, a0_7] : List Int)) Bgp.out⟩) (by simp; omega) (by intro v hv; obtain ⟨x, _, rfl⟩ := List.mem_map.1 hv; rfl) ?_
    intro w9 hgo hoth hbel
    have Bgp1 := Aside0.mk ((hoth _ NBpo.out).trans Bgp.out)
    have Bgr1 := Aside0.mk ((hoth _ NBro.out).trans Bgr.out)
    have Bgo1 : Aside0 (w9.heap[go]? = some (.cells (YtcpfhnodbgojaaaDoorR.arr (([a0_0, a0_1, a0_2, a0_3, a0_4, a0_5, a0_6, a0_7] : List Int).take gap ++ List.replicate (8 - gap) 0)) 24 (0, 0))) := ⟨by rw [hgo]; congr 2; unfold YtcpfhnodbgojaaaDoorR.arr; rw [List.map_append, List.take_zero, List.nil_append, List.length_map, List.length_take_of_le (by first | (simp; done) | (simp; omega)), Nat.zero_add, List.map_replicate, List.map_replicate, List.drop_replicate]⟩
    have HB1 := Aside0.mk (hbel _ _ HB.out Ggo.out)
    clear Bgp Bgr Bgo HB hgo hoth hbel
    have Bgp := Bgp1
    have Bgr := Bgr1
    have Bgo := Bgo1
    have HB := HB1
    clear Bgp1 Bgr1 Bgo1 HB1
    refine hK.out _ _ trivial (fun hHeld => ?_)
    clear hK K
    refine norm_ (a' := ?_) ?_ ?_
    rotate_left
    · show Act.put _ (some 11) _ = _
      simp only [Act.put, List.setIfInBounds_toArray, List.set_cons_zero, List.set_cons_succ, i64_w, i32_w]
      rfl
    refine done_ (by kernel_rfl) ?_
    go_wp2
    have HD := Aside0.mk (below_drew1 HB.out)
    clear HB
    have HB := HD
    clear HD
    refine start_ (n := 11) (S := fun _ => True) (ds := []) #[false, false, false, false, false, false, false, false, false, false, false] (by kernel_rfl) rfl rfl trivial (fun hHeld => ?_)
    have Bgp1 := Aside0.mk (blk_drew Bgp.out)
    have Bgr1 := Aside0.mk (blk_drew Bgr.out)
    have Bgo1 := Aside0.mk (blk_drew Bgo.out)
    clear Bgp Bgr Bgo
    have Bgp := Bgp1
    have Bgr := Bgr1
    have Bgo := Bgo1
    clear Bgp1 Bgr1 Bgo1
    generalize w9.drew = w10 at HB Bgp Bgr Bgo hHeld ⊢
    refine pure_ (i := 0) (N := some 12) (v := ?_) (a' := ?_) #[true, false, false, false, false, false, false, false, false, false, false] rfl rfl (by kernel_rfl) (fun _ _ _ h => h) (Or.inl ⟨by rfl, ?_⟩) ?_ ?_
    rotate_left
    · intro w'
      go_simp
      first | with_reducible rfl | rfl
    rotate_left
    · simp only [Act.put, List.setIfInBounds_toArray, List.set_cons_zero, List.set_cons_succ, i64_w, i32_w]
      rfl
    refine pure_ (i := 1) (N := some 13) (v := ?_) (a' := ?_) #[true, true, false, false, false, false, false, false, false, false, false] rfl rfl (by kernel_rfl) (fun _ _ _ h => h) (Or.inl ⟨by rfl, ?_⟩) ?_ ?_
    rotate_left
    · intro w'
      go_simp
      first | with_reducible rfl | rfl
    rotate_left
    · simp only [Act.put, List.setIfInBounds_toArray, List.set_cons_zero, List.set_cons_succ, i64_w, i32_w]
      rfl
    refine pure_ (i := 2) (N := some 14) (v := ?_) (a' := ?_) #[true, true, true, false, false, false, false, false, false, false, false] rfl rfl (by kernel_rfl) (fun _ _ _ h => h) (Or.inl ⟨by rfl, ?_⟩) ?_ ?_
    rotate_left
    · intro w'
      go_simp
      first | with_reducible rfl | rfl
    rotate_left
    · simp only [Act.put, List.setIfInBounds_toArray, List.set_cons_zero, List.set_cons_succ, i64_w, i32_w]
      rfl
    refine pure_ (i := 3) (N := some 15) (v := ?_) (a' := ?_) #[true, true, true, true, false, false, false, false, false, false, false] rfl rfl (by kernel_rfl) (fun _ _ _ h => h) (Or.inl ⟨by rfl, ?_⟩) ?_ ?_
    rotate_left
    · intro w'
      go_simp
      first | with_reducible rfl | rfl
    rotate_left
    · simp only [Act.put, List.setIfInBounds_toArray, List.set_cons_zero, List.set_cons_succ, i64_w, i32_w]
      rfl
    refine pure_ (i := 4) (N := some 16) (v := ?_) (a' := ?_) #[true, true, true, true, true, false, false, false, false, false, false] rfl rfl (by kernel_rfl) (fun _ _ _ h => h) (Or.inl ⟨by rfl, ?_⟩) ?_ ?_
    rotate_left
    · intro w'
      go_simp
      first | with_reducible rfl | rfl
    rotate_left
    · simp only [Act.put, List.setIfInBounds_toArray, List.set_cons_zero, List.set_cons_succ, i64_w, i32_w]
      rfl
    refine pure_ (i := 5) (N := some 17) (v := ?_) (a' := ?_) #[true, true, true, true, true, true, false, false, false, false, false] rfl rfl (by kernel_rfl) (fun _ _ _ h => h) (Or.inl ⟨by rfl, ?_⟩) ?_ ?_
    rotate_left
    · intro w'
      go_simp
      first | with_reducible rfl | rfl
    rotate_left
    · simp only [Act.put, List.setIfInBounds_toArray, List.set_cons_zero, List.set_cons_succ, i64_w, i32_w]
      rfl
    refine pure_ (i := 6) (N := some 18) (v := ?_) (a' := ?_) #[true, true, true, true, true, true, true, false, false, false, false] rfl rfl (by kernel_rfl) (fun _ _ _ h => h) (Or.inl ⟨by rfl, ?_⟩) ?_ ?_
    rotate_left
    · intro w'
      go_simp
      first | with_reducible rfl | rfl
    rotate_left
    · simp only [Act.put, List.setIfInBounds_toArray, List.set_cons_zero, List.set_cons_succ, i64_w, i32_w]
      rfl
    refine pure_ (i := 7) (N := some 19) (v := ?_) (a' := ?_) #[true, true, true, true, true, true, true, true, false, false, false] rfl rfl (by kernel_rfl) (fun _ _ _ h => h) (Or.inl ⟨by rfl, ?_⟩) ?_ ?_
    rotate_left
    · intro w'
      go_simp
      first | with_reducible rfl | rfl
    rotate_left
    · simp only [Act.put, List.setIfInBounds_toArray, List.set_cons_zero, List.set_cons_succ, i64_w, i32_w]
      rfl
    refine pure_ (i := 8) (N := some 20) (v := ?_) (a' := ?_) #[true, true, true, true, true, true, true, true, true, false, false] rfl rfl (by kernel_rfl) (fun _ _ _ h => h) (Or.inl ⟨by rfl, ?_⟩) ?_ ?_
    rotate_left
    · intro w'
      go_simp
      first | with_reducible rfl | rfl
    rotate_left
    · simp only [Act.put, List.setIfInBounds_toArray, List.set_cons_zero, List.set_cons_succ, i64_w, i32_w]
      rfl
    refine pure_ (i := 9) (N := some 21) (v := ?_) (a' := ?_) #[true, true, true, true, true, true, true, true, true, true, false] rfl rfl (by kernel_rfl) (fun _ _ _ h => h) (Or.inl ⟨by rfl, ?_⟩) ?_ ?_
    rotate_left
    · intro w'
      go_simp
      first | with_reducible rfl | rfl
    rotate_left
    · simp only [Act.put, List.setIfInBounds_toArray, List.set_cons_zero, List.set_cons_succ, i64_w, i32_w]
      rfl
    refine one_ (i := 10) (N := some 22) #[true, true, true, true, true, true, true, true, true, true, true] rfl rfl (by kernel_rfl) (by decide) (fun K hK => ?_)
    refine YtcpfhnodbgojaaaDoorR.step_copy rfl (.tmp 17) (.tmp 21) 51 51 rfl 23 Tryd.underlying51 (by kernel_rfl) (some A2) (some A3) m m m c3 rfl rfl go (8 - m) ((([a0_0, a0_1, a0_2, a0_3, a0_4, a0_5, a0_6, a0_7] : List Int).take gap ++ List.replicate (8 - gap) 0).map fun x => Value.int .u16 x) 24 Bgo.out (((([a0_0, a0_1, a0_2, a0_3, a0_4, a0_5, a0_6, a0_7] : List Int).drop (gap + 1)).take m).map fun x => Value.int .u16 x) (by simp; omega) (fun hp => by have hm0 : 0 < m := Nat.lt_of_lt_of_le hp (by rw [List.length_map]; exact List.length_take_le _ _); exact ⟨by rw [hA2 hm0], _, rfl, by rw [hA3 hm0]; exact YtcpfhnodbgojaaaDoorR.arr_src (lo := gap + 1) (n := m) (ps := ([a0_0, a0_1, a0_2, a0_3, a0_4, a0_5, a0_6, a0_7] : List Int)) Bgp.out⟩) (by simp; omega) (by intro v hv; obtain ⟨x, _, rfl⟩ := List.mem_map.1 hv; rfl) ?_
    intro w11 hgo hoth hbel
    have hd0 : ∀ (X Y : List Value), X.length = 8 → Y.length = m → X.drop (8 - m + Y.length) = [] := fun X Y hX hY => List.drop_eq_nil_of_le (by omega)
    have Bgr1 := Aside0.mk ((hoth _ NBro.out).trans Bgr.out)
    have Bgo1 : Aside0 (w11.heap[go]? = some (.cells #[.int .u16 r1, .int .u16 r2, .int .u16 r3, .int .u16 r4, .int .u16 r5, .int .u16 r6, .int .u16 r7, .int .u16 r8] 24 (0, 0))) := ⟨by rw [hgo]; congr 2; rw [← (show YtcpfhnodbgojaaaDoorR.arr [r1, r2, r3, r4, r5, r6, r7, r8] = #[.int .u16 r1, .int .u16 r2, .int .u16 r3, .int .u16 r4, .int .u16 r5, .int .u16 r6, .int .u16 r7, .int .u16 r8] from rfl), ← hL]; unfold YtcpfhnodbgojaaaDoorR.arr YtcpfhnodbgojaaaDoorR.spreadL; rw [← hm'.out, ← List.map_take, ← List.map_append, hd0 _ _ (by simp; omega) (by simp; omega), List.append_nil]⟩
    have HB1 := Aside0.mk (hbel _ _ HB.out Ggo.out)
    clear Bgp Bgr Bgo HB hgo hoth hbel
    have Bgr := Bgr1
    have Bgo := Bgo1
    have HB := HB1
    clear Bgr1 Bgo1 HB1
    refine hK.out _ _ trivial (fun hHeld => ?_)
    clear hK K
    refine norm_ (a' := ?_) ?_ ?_
    rotate_left
    · show Act.put _ (some 22) _ = _
      simp only [Act.put, List.setIfInBounds_toArray, List.set_cons_zero, List.set_cons_succ, i64_w, i32_w]
      rfl
    refine done_ (by kernel_rfl) ?_
    go_wp2_with (first | ((with_reducible refine gate_dst (N := 23) rfl ?_); (with_reducible refine gate_load (t := 24) (p := 7) (N := 23) rfl rfl ?_); refine load_event (t := 24) (p := 7) (g := go) (T := 24) (cs := #[.int .u16 r1, .int .u16 r2, .int .u16 r3, .int .u16 r4, .int .u16 r5, .int .u16 r6, .int .u16 r7, .int .u16 r8]) ?hg ?ho ?hp ?hb hu24 rfl ?hi ?_; (case ho => rfl); (case hg => rfl); (case hp => rfl); (case hb => exact Bgo.out); (case hi => kernel_rfl)) | ((with_reducible refine gate_store (t := 24) (p := 6) rfl ?_); refine whole_event (t := 24) (p := 6) (v := ?vo) (u := ?vu) (g := gr) (cs := #[.int .u16 r1, .int .u16 r2, .int .u16 r3, .int .u16 r4, .int .u16 r5, .int .u16 r6, .int .u16 r7, .int .u16 r8]) ?hg ?ho ?hn ?hp ?hv ?hu Bgr.out ?hs ?ht ?h1 ?_; (case ho => rfl); (case hg => rfl); (case hn => rfl); (case hp => rfl); (case hv => rfl); (case hu => rfl); (case hs => rfl); (case ht => kernel_rfl); (case h1 => rfl); intro w12 hbox hwk; have n0_ := Aside0.mk hbox; have n1_ := Aside0.mk (hwk.below HB.out Ggr.out); clear Bgr HB hbox hwk; have Bgr := n0_; have HB := n1_; clear n0_ n1_))
    refine bodyPost_ret (results_single rfl (.cell gr 24 #[.int .u16 r1, .int .u16 r2, .int .u16 r3, .int .u16 r4, .int .u16 r5, .int .u16 r6, .int .u16 r7, .int .u16 r8] (0, 0) _ rfl Bgr.out hu24 rfl (by kernel_rfl) .nil)) rfl ?_
    exact ⟨rfl, HB.out⟩
  · rw [if_neg hc] at h; cases h



/-! ### ip6_Parse: function 8 (given) -/
/-- A list's eight, as spread takes them. -/
def ip6_Parse.spr (ps : List Int) (gap at_ : Int) : Option (List Int) := match ps with
  | [p0, p1, p2, p3, p4, p5, p6, p7] => if 0 ≤ gap ∧ gap < at_ ∧ at_ ≤ 8 then some (YtcpfhnodbgojaaaDoorR.spreadL [p0, p1, p2, p3, p4, p5, p6, p7] gap.toNat at_.toNat) else none
  | _ => none
/-- Behind a piece: the rest of the text. -/
def ip6_Parse.after (run : Nat → ByteArray → Int → Int → List Int → Option (List Int × Bool)) (s : ByteArray) (xa xg : Int) (ps : List Int) : Option (List Int × Bool) :=
  if s.toList = ([] : List UInt8) then run 4 s xa xg ps else (strings_HasPrefix.f s (⟨#[58, 58]⟩ : ByteArray)).bind fun b => if b = true then run 0 s xa xg ps else if 0 < (s.size : Int) then (if bt s 0 = 58 then run 2 (s.extract 1 s.size) xa xg ps else run 1 s xa xg ps) else none
/-- From each label on. -/
def ip6_Parse.run : Nat → Nat → ByteArray → Int → Int → List Int → Option (List Int × Bool)
  | 0, _, _, _, _, _ => none
  | k + 1, 2, s, xa, xg, ps => if xa = 8 then ip6_Parse.run k 1 s xa xg ps else (ip6_hex.f k s).bind fun t => if t.2 = 0 then ip6_Parse.run k 1 s xa xg ps else
      if 0 ≤ t.2 ∧ t.2 ≤ (s.size : Int) then (if t.2 < (s.size : Int) then (if bt s t.2 = 46 then ip6_Parse.run k 3 s xa xg ps else ip6_Parse.after (ip6_Parse.run k) (s.extract t.2.toNat s.size) (xa + 1) xg (ps.set xa.toNat t.1)) else ip6_Parse.after (ip6_Parse.run k) (s.extract t.2.toNat s.size) (xa + 1) xg (ps.set xa.toNat t.1)) else none
  | k + 1, 0, s, xa, xg, ps => if 0 ≤ xg then ip6_Parse.run k 1 s xa xg ps else if xa = 8 then ip6_Parse.run k 1 s xa xg ps else if 2 ≤ (s.size : Int) then (if (s.extract 2 s.size).toList = ([] : List UInt8) then ip6_Parse.run k 4 (s.extract 2 s.size) (xa + 1) xa ps else ip6_Parse.run k 2 (s.extract 2 s.size) (xa + 1) xa ps) else none
  | k + 1, 3, s, xa, xg, ps => (ip6_four.f k s).bind fun t => if t.2.2 = true then (if xa > 6 then ip6_Parse.run k 1 s xa xg ps else ip6_Parse.run k 4 s (xa + 2) xg ((ps.set xa.toNat t.1).set (xa.toNat + 1) t.2.1)) else ip6_Parse.run k 1 s xa xg ps
  | k + 1, 4, s, xa, xg, ps => if xg < 0 then (if xa = 8 then some (ps, true) else ip6_Parse.run k 1 s xa xg ps) else (ip6_Parse.spr ps xg xa).bind fun l => some (l, true)
  | _ + 1, _, _, _, _, _ => some ([0, 0, 0, 0, 0, 0, 0, 0], false)
def ip6_Parse.nine (t : List Int × Bool) : Int × Int × Int × Int × Int × Int × Int × Int × Bool := (t.1.getD 0 0, t.1.getD 1 0, t.1.getD 2 0, t.1.getD 3 0, t.1.getD 4 0, t.1.getD 5 0, t.1.getD 6 0, t.1.getD 7 0, t.2)
def ip6_Parse.f (k : Nat) (a0 : ByteArray) : Option (Int × Int × Int × Int × Int × Int × Int × Int × Bool) := (strings_HasPrefix.f a0 (⟨#[58, 58]⟩ : ByteArray)).bind fun b => (if b = true then ip6_Parse.run k 0 a0 0 (-1) [0, 0, 0, 0, 0, 0, 0, 0] else ip6_Parse.run k 2 a0 0 (-1) [0, 0, 0, 0, 0, 0, 0, 0]).bind fun t => some (ip6_Parse.nine t)
theorem ip6_Parse.after_mono {r r' : Nat → ByteArray → Int → Int → List Int → Option (List Int × Bool)} (h : ∀ l s xa xg ps, LeO (r l s xa xg ps) (r' l s xa xg ps)) (s : ByteArray) (xa xg : Int) (ps : List Int) : LeO (ip6_Parse.after r s xa xg ps) (ip6_Parse.after r' s xa xg ps) := by
  unfold ip6_Parse.after
  exact LeO.ite (h _ _ _ _ _) (LeO.bind (LeO.refl _) (fun b => LeO.ite (h _ _ _ _ _) (LeO.ite (LeO.ite (h _ _ _ _ _) (h _ _ _ _ _)) (LeO.refl _))))
theorem ip6_Parse.run_mono : ∀ (k l : Nat) (s : ByteArray) (xa xg : Int) (ps : List Int), LeO (ip6_Parse.run k l s xa xg ps) (ip6_Parse.run (k + 1) l s xa xg ps)
  | 0, _, _, _, _, _ => fun r h => by simp [ip6_Parse.run] at h
  | k + 1, l, s, xa, xg, ps => by
    have ih := ip6_Parse.run_mono k
    match l with
    | 2 => exact LeO.ite (ih _ _ _ _ _) (LeO.bind (ip6_hex.mono _ _) (fun t => LeO.ite (ih _ _ _ _ _) (LeO.ite (LeO.ite (LeO.ite (ih _ _ _ _ _) (ip6_Parse.after_mono ih _ _ _ _)) (ip6_Parse.after_mono ih _ _ _ _)) (LeO.refl _))))
    | 0 => exact LeO.ite (ih _ _ _ _ _) (LeO.ite (ih _ _ _ _ _) (LeO.ite (LeO.ite (ih _ _ _ _ _) (ih _ _ _ _ _)) (LeO.refl _)))
    | 3 => exact LeO.bind (ip6_four.mono _ _) (fun t => LeO.ite (LeO.ite (ih _ _ _ _ _) (ih _ _ _ _ _)) (ih _ _ _ _ _))
    | 4 => exact LeO.ite (LeO.ite (LeO.refl _) (ih _ _ _ _ _)) (LeO.refl _)
    | 1 => exact LeO.refl _
    | l + 5 => exact LeO.refl _
theorem ip6_Parse.mono : ∀ a0 k, LeO (ip6_Parse.f k a0) (ip6_Parse.f (k + 1) a0) := by
  intro a0 k
  exact LeO.bind (LeO.refl _) (fun b => LeO.bind (LeO.ite (ip6_Parse.run_mono _ _ _ _ _ _) (ip6_Parse.run_mono _ _ _ _ _ _)) (fun t => LeO.refl _))
theorem ip6_Parse.run_z (l : Nat) (s : ByteArray) (xa xg : Int) (ps : List Int) : ip6_Parse.run 0 l s xa xg ps = none := by cases l <;> rfl
theorem ip6_Parse.run_2 (k : Nat) (s : ByteArray) (xa xg : Int) (ps : List Int) : ip6_Parse.run (k + 1) 2 s xa xg ps = (if xa = 8 then ip6_Parse.run k 1 s xa xg ps else (ip6_hex.f k s).bind fun t => if t.2 = 0 then ip6_Parse.run k 1 s xa xg ps else if 0 ≤ t.2 ∧ t.2 ≤ (s.size : Int) then (if t.2 < (s.size : Int) then (if bt s t.2 = 46 then ip6_Parse.run k 3 s xa xg ps else ip6_Parse.after (ip6_Parse.run k) (s.extract t.2.toNat s.size) (xa + 1) xg (ps.set xa.toNat t.1)) else ip6_Parse.after (ip6_Parse.run k) (s.extract t.2.toNat s.size) (xa + 1) xg (ps.set xa.toNat t.1)) else none) := rfl
theorem ip6_Parse.run_0 (k : Nat) (s : ByteArray) (xa xg : Int) (ps : List Int) : ip6_Parse.run (k + 1) 0 s xa xg ps = (if 0 ≤ xg then ip6_Parse.run k 1 s xa xg ps else if xa = 8 then ip6_Parse.run k 1 s xa xg ps else if 2 ≤ (s.size : Int) then (if (s.extract 2 s.size).toList = ([] : List UInt8) then ip6_Parse.run k 4 (s.extract 2 s.size) (xa + 1) xa ps else ip6_Parse.run k 2 (s.extract 2 s.size) (xa + 1) xa ps) else none) := rfl
theorem ip6_Parse.run_3 (k : Nat) (s : ByteArray) (xa xg : Int) (ps : List Int) : ip6_Parse.run (k + 1) 3 s xa xg ps = ((ip6_four.f k s).bind fun t => if t.2.2 = true then (if xa > 6 then ip6_Parse.run k 1 s xa xg ps else ip6_Parse.run k 4 s (xa + 2) xg ((ps.set xa.toNat t.1).set (xa.toNat + 1) t.2.1)) else ip6_Parse.run k 1 s xa xg ps) := rfl
theorem ip6_Parse.run_4 (k : Nat) (s : ByteArray) (xa xg : Int) (ps : List Int) : ip6_Parse.run (k + 1) 4 s xa xg ps = (if xg < 0 then (if xa = 8 then some (ps, true) else ip6_Parse.run k 1 s xa xg ps) else (ip6_Parse.spr ps xg xa).bind fun l => some (l, true)) := rfl
theorem ip6_Parse.run_1 (k : Nat) (s : ByteArray) (xa xg : Int) (ps : List Int) : ip6_Parse.run (k + 1) 1 s xa xg ps = some ([0, 0, 0, 0, 0, 0, 0, 0], false) := rfl
/-- What holds at each label. -/
def ip6_Parse.J (w0 : World) (gr gp : Nat) (R : List Int × Bool) (g l : Nat) (a : Act) (w : World) : Prop :=
  ∃ (s : ByteArray) (xa xg : Int) (ps : List Int) (V : Nat → Value), a = { tmps := #[.string s, V 1, .pointer (some ⟨gr, 0, none⟩), V 3, .pointer (some ⟨gp, 0, none⟩), .int .i64 xa, .int .i64 xg, V 7, V 8, V 9, V 10, V 11, V 12, V 13, V 14, V 15, V 16, V 17, V 18, V 19, V 20, V 21, V 22, V 23, V 24, V 25, V 26, V 27, V 28, V 29, V 30, V 31, V 32, V 33, V 34, V 35, V 36, V 37, V 38, V 39, V 40, V 41, V 42, V 43, V 44, V 45, V 46, V 47, V 48, V 49, V 50, V 51, V 52, V 53, V 54, V 55, V 56, V 57, V 58, V 59, V 60, V 61, V 62, V 63, V 64, V 65, V 66, V 67, V 68, V 69, V 70, V 71, V 72, V 73, V 74, V 75, V 76, V 77, V 78, V 79, V 80, V 81, V 82, V 83, V 84, V 85, V 86, V 87, V 88, V 89, V 90, V 91, V 92, V 93, V 94, V 95, V 96], defers := [] } ∧ Aside0 (ip6_Parse.run g l s xa xg ps = some R) ∧ Aside0 (0 ≤ xa ∧ xa ≤ 8 ∧ ps.length = 8 ∧ -1 ≤ xg ∧ xg ≤ 8) ∧ Aside0 (w.heap[gr]? = some (.cells #[.int .u16 0, .int .u16 0, .int .u16 0, .int .u16 0, .int .u16 0, .int .u16 0, .int .u16 0, .int .u16 0] 24 (0, 0))) ∧ Aside0 (w.heap[gp]? = some (.cells (YtcpfhnodbgojaaaDoorR.arr ps) 24 (0, 0))) ∧ Aside0 (Below w0.heap.size w0 w)
theorem ip6_Parse.expand {T : List Value} {n : Nat} (h : T.length = n) : T = (List.range n).map (fun i => T.getD i undef) := by
  subst h
  apply List.ext_getElem
  · simp
  · intro i h1 h2
    simp [List.getD_eq_getElem?_getD, List.getElem?_eq_getElem h1]
set_option maxRecDepth 100000 in
theorem ip6_Parse.J_intro {w0 : World} {gr gp : Nat} {R : List Int × Bool} {g l : Nat} {w : World} {T : List Value} (s : ByteArray) (xa xg : Int) (ps : List Int) (hl : T.length = 97)
    (h0 : T.getD 0 undef = .string s) (h2 : T.getD 2 undef = .pointer (some ⟨gr, 0, none⟩)) (h4 : T.getD 4 undef = .pointer (some ⟨gp, 0, none⟩)) (h5 : T.getD 5 undef = .int .i64 xa) (h6 : T.getD 6 undef = .int .i64 xg)
    (hrun : ip6_Parse.run g l s xa xg ps = some R) (hbd : 0 ≤ xa ∧ xa ≤ 8 ∧ ps.length = 8 ∧ -1 ≤ xg ∧ xg ≤ 8) (hgr : w.heap[gr]? = some (.cells #[.int .u16 0, .int .u16 0, .int .u16 0, .int .u16 0, .int .u16 0, .int .u16 0, .int .u16 0, .int .u16 0] 24 (0, 0))) (hgp : w.heap[gp]? = some (.cells (YtcpfhnodbgojaaaDoorR.arr ps) 24 (0, 0))) (hB : Below w0.heap.size w0 w) :
    ip6_Parse.J w0 gr gp R g l { tmps := ⟨T⟩, defers := [] } w := by
  refine ⟨s, xa, xg, ps, fun i => T.getD i undef, ?_, ⟨hrun⟩, ⟨hbd⟩, ⟨hgr⟩, ⟨hgp⟩, ⟨hB⟩⟩
  have e := ip6_Parse.expand hl
  have e2 : (List.range 97).map (fun i => T.getD i undef) = [T.getD 0 undef, T.getD 1 undef, T.getD 2 undef, T.getD 3 undef, T.getD 4 undef, T.getD 5 undef, T.getD 6 undef, T.getD 7 undef, T.getD 8 undef, T.getD 9 undef, T.getD 10 undef, T.getD 11 undef, T.getD 12 undef, T.getD 13 undef, T.getD 14 undef, T.getD 15 undef, T.getD 16 undef, T.getD 17 undef, T.getD 18 undef, T.getD 19 undef, T.getD 20 undef, T.getD 21 undef, T.getD 22 undef, T.getD 23 undef, T.getD 24 undef, T.getD 25 undef, T.getD 26 undef, T.getD 27 undef, T.getD 28 undef, T.getD 29 undef, T.getD 30 undef, T.getD 31 undef, T.getD 32 undef, T.getD 33 undef, T.getD 34 undef, T.getD 35 undef, T.getD 36 undef, T.getD 37 undef, T.getD 38 undef, T.getD 39 undef, T.getD 40 undef, T.getD 41 undef, T.getD 42 undef, T.getD 43 undef, T.getD 44 undef, T.getD 45 undef, T.getD 46 undef, T.getD 47 undef, T.getD 48 undef, T.getD 49 undef, T.getD 50 undef, T.getD 51 undef, T.getD 52 undef, T.getD 53 undef, T.getD 54 undef, T.getD 55 undef, T.getD 56 undef, T.getD 57 undef, T.getD 58 undef, T.getD 59 undef, T.getD 60 undef, T.getD 61 undef, T.getD 62 undef, T.getD 63 undef, T.getD 64 undef, T.getD 65 undef, T.getD 66 undef, T.getD 67 undef, T.getD 68 undef, T.getD 69 undef, T.getD 70 undef, T.getD 71 undef, T.getD 72 undef, T.getD 73 undef, T.getD 74 undef, T.getD 75 undef, T.getD 76 undef, T.getD 77 undef, T.getD 78 undef, T.getD 79 undef, T.getD 80 undef, T.getD 81 undef, T.getD 82 undef, T.getD 83 undef, T.getD 84 undef, T.getD 85 undef, T.getD 86 undef, T.getD 87 undef, T.getD 88 undef, T.getD 89 undef, T.getD 90 undef, T.getD 91 undef, T.getD 92 undef, T.getD 93 undef, T.getD 94 undef, T.getD 95 undef, T.getD 96 undef] := rfl
  rw [h0, h2, h4, h5, h6] at e2
  rw [e2] at e
  congr 1
  exact congrArg Array.mk e
set_option maxHeartbeats 8000000 in
set_option maxRecDepth 100000 in
theorem ip6_Parse.calls (k : Nat) (a0 : ByteArray) (r1 r2 r3 r4 r5 r6 r7 r8 : Int) (r9 : Bool) (w : World) (hE : EnvOK w) (h : ip6_Parse.f k a0 = some (r1, r2, r3, r4, r5, r6, r7, r8, r9)) :
    Calls Tryd.prog 8 #[.string a0] w fun e w' => e = .returned (.tuple #[.agg #[.int .u16 r1, .int .u16 r2, .int .u16 r3, .int .u16 r4, .int .u16 r5, .int .u16 r6, .int .u16 r7, .int .u16 r8], .bool r9]) ∧ Below w.heap.size w w' := by
  have hu24 := Tryd.underlying24
  have HB := Aside0.mk (Below.refl w.heap.size w)
  have HE := Aside0.mk hE
  clear hE
  unfold ip6_Parse.f at h
  obtain ⟨b, hb, h⟩ := Option.bind_eq_some_iff.mp h
  obtain ⟨R, hR, h⟩ := Option.bind_eq_some_iff.mp h
  have hpre : ∀ W, Calls Tryd.prog 15 #[.string a0, .string (⟨#[58, 58]⟩ : ByteArray)] W fun e w' => e = .returned (.bool b) ∧ Drawn0 W w' := fun W => strings_HasPrefix.calls a0 (⟨#[58, 58]⟩ : ByteArray) b W hb
  have hR' := Aside0.mk hR
  have hN := Aside0.mk (Option.some.inj h)
  clear h hR hb
  go_enter Tryd.func8, Tryd.ntmps8
  go_wp2_with ((with_reducible refine gate_dst (N := 2) rfl ?_); refine box_event ?hg (N := 2) ?hd (cs := #[.int .u16 0, .int .u16 0, .int .u16 0, .int .u16 0, .int .u16 0, .int .u16 0, .int .u16 0, .int .u16 0]) (t := 24) ?hr ?_; (case hd => rfl); (case hg => rfl); (case hr => first | (go_simp; done) | (go_simp; rfl)); intro gr hg w2 hbox hb; have n0_ := Aside0.mk (below_step HB.out hb); have Ggr := Aside0.mk (by rw [hg]; exact (below_size HB.out) : w.heap.size ≤ gr); have Bgr := Aside0.mk hbox;  clear HB; have HB := n0_; clear n0_ hb hbox hg)
  refine YtcpfhnodbgojaaaDoorJ.wp_scope_fall (fun g l a w' => ∃ gp, gr ≠ gp ∧ w.heap.size ≤ gp ∧ ip6_Parse.J w gr gp R g l a w') (fun l => l < 5) ?pass ?first
  case first =>
    intro fall
    cases b with
    | true =>
      have hR2 : ip6_Parse.run k 0 a0 0 (-1) [0, 0, 0, 0, 0, 0, 0, 0] = some R := hR'.out
      go_wp2_with (go_at_call 15; refine (hpre _).mono ?_; rintro e w' ⟨rfl, nd, rfl⟩)
      obtain ⟨gp, hgp⟩ : ∃ g, g = w2.heap.size := ⟨_, rfl⟩
      have NB0 : gr ≠ gp := by rw [hgp]; exact Nat.ne_of_lt (blk_lt Bgr.out)
      have Ggp0 : w.heap.size ≤ gp := by rw [hgp]; exact (below_size HB.out)
      have m0_ := Aside0.mk (blk_alloc Bgr.out (.cells #[.int .u16 0, .int .u16 0, .int .u16 0, .int .u16 0, .int .u16 0, .int .u16 0, .int .u16 0, .int .u16 0] 24 (0, 0)))
      have m1_ := Aside0.mk (by rw [hgp]; exact blk_new w2 (.cells #[.int .u16 0, .int .u16 0, .int .u16 0, .int .u16 0, .int .u16 0, .int .u16 0, .int .u16 0, .int .u16 0] 24 (0, 0)) : (w2.alloc (.cells #[.int .u16 0, .int .u16 0, .int .u16 0, .int .u16 0, .int .u16 0, .int .u16 0, .int .u16 0, .int .u16 0] 24 (0, 0))).heap[gp]? = some (.cells #[.int .u16 0, .int .u16 0, .int .u16 0, .int .u16 0, .int .u16 0, .int .u16 0, .int .u16 0, .int .u16 0] 24 (0, 0)))
      have m2_ := Aside0.mk (below_alloc HB.out (.cells #[.int .u16 0, .int .u16 0, .int .u16 0, .int .u16 0, .int .u16 0, .int .u16 0, .int .u16 0, .int .u16 0] 24 (0, 0)))
      rw [← hgp]
      clear Bgr HB hgp
      have Bgr := m0_
      have Bgp := m1_
      have HB := m2_
      clear m0_ m1_ m2_
      generalize w2.alloc (.cells #[.int .u16 0, .int .u16 0, .int .u16 0, .int .u16 0, .int .u16 0, .int .u16 0, .int .u16 0, .int .u16 0] 24 (0, 0)) = w4 at Bgr Bgp HB ⊢
      go_step3
      show (0 : Nat) < 5 ∧ ∃ g, ∃ gp : Nat, gr ≠ gp ∧ w.heap.size ≤ gp ∧ ip6_Parse.J w gr gp R g 0 _ _
      exact ⟨by decide, k, gp, NB0, Ggp0, ip6_Parse.J_intro a0 0 (-1) [0, 0, 0, 0, 0, 0, 0, 0] rfl rfl rfl rfl rfl rfl hR2 (by decide) (by (with_reducible repeat (first | refine blk_drewN ?_ _ | refine blk_drew ?_ | refine blk_alloc ?_ _)); exact Bgr.out) (by (with_reducible repeat (first | refine blk_drewN ?_ _ | refine blk_drew ?_ | refine blk_alloc ?_ _)); exact Bgp.out) (by repeat (first | exact HB.out | apply pw_below_drewN | apply below_drew1 | apply below_alloc))⟩
    | false =>
      have hR2 : ip6_Parse.run k 2 a0 0 (-1) [0, 0, 0, 0, 0, 0, 0, 0] = some R := hR'.out
      go_wp2_with (go_at_call 15; refine (hpre _).mono ?_; rintro e w' ⟨rfl, nd, rfl⟩)
      obtain ⟨gp, hgp⟩ : ∃ g, g = w2.heap.size := ⟨_, rfl⟩
      have NB0 : gr ≠ gp := by rw [hgp]; exact Nat.ne_of_lt (blk_lt Bgr.out)
      have Ggp0 : w.heap.size ≤ gp := by rw [hgp]; exact (below_size HB.out)
      have m0_ := Aside0.mk (blk_alloc Bgr.out (.cells #[.int .u16 0, .int .u16 0, .int .u16 0, .int .u16 0, .int .u16 0, .int .u16 0, .int .u16 0, .int .u16 0] 24 (0, 0)))
      have m1_ := Aside0.mk (by rw [hgp]; exact blk_new w2 (.cells #[.int .u16 0, .int .u16 0, .int .u16 0, .int .u16 0, .int .u16 0, .int .u16 0, .int .u16 0, .int .u16 0] 24 (0, 0)) : (w2.alloc (.cells #[.int .u16 0, .int .u16 0, .int .u16 0, .int .u16 0, .int .u16 0, .int .u16 0, .int .u16 0, .int .u16 0] 24 (0, 0))).heap[gp]? = some (.cells #[.int .u16 0, .int .u16 0, .int .u16 0, .int .u16 0, .int .u16 0, .int .u16 0, .int .u16 0, .int .u16 0] 24 (0, 0)))
      have m2_ := Aside0.mk (below_alloc HB.out (.cells #[.int .u16 0, .int .u16 0, .int .u16 0, .int .u16 0, .int .u16 0, .int .u16 0, .int .u16 0, .int .u16 0] 24 (0, 0)))
      rw [← hgp]
      clear Bgr HB hgp
      have Bgr := m0_
      have Bgp := m1_
      have HB := m2_
      clear m0_ m1_ m2_
      generalize w2.alloc (.cells #[.int .u16 0, .int .u16 0, .int .u16 0, .int .u16 0, .int .u16 0, .int .u16 0, .int .u16 0, .int .u16 0] 24 (0, 0)) = w4 at Bgr Bgp HB ⊢
      go_step3
      rename_i K hK
      refine hK _ _ ?_
      exact fall 2 _ (by decide) rfl k _ _ ⟨gp, NB0, Ggp0, ip6_Parse.J_intro a0 0 (-1) [0, 0, 0, 0, 0, 0, 0, 0] rfl rfl rfl rfl rfl rfl hR2 (by decide) (by (with_reducible repeat (first | refine blk_drewN ?_ _ | refine blk_drew ?_ | refine blk_alloc ?_ _)); exact Bgr.out) (by (with_reducible repeat (first | refine blk_drewN ?_ _ | refine blk_drew ?_ | refine blk_alloc ?_ _)); exact Bgp.out) (by repeat (first | exact HB.out | apply pw_below_drewN | apply below_drew1 | apply below_alloc))⟩
  case pass =>
    intro g ih l hl
    have hcases : l = 0 ∨ l = 1 ∨ l = 2 ∨ l = 3 ∨ l = 4 := by omega
    rcases hcases with rfl | rfl | rfl | rfl | rfl
    · refine ⟨_, rfl, fun a w1 hJ => ?_⟩
      obtain ⟨gp, NB0, Ggp0, s, xa, xg, ps, V, rfl, HRun, HBd, Bgr, Bgp, HB⟩ := hJ
      have H := HRun.out
      clear HRun
      cases g with
      | zero => exact absurd H (by rw [ip6_Parse.run_z]; exact fun h => by cases h)
      | succ g =>
        rw [ip6_Parse.run_0] at H
        have hA := HBd.out
        by_cases c1 : 0 ≤ xg
        · rw [if_pos c1] at H
          have c1b := decide_eq_true c1
          go_wp2
          go_step3
          show (1 : Nat) < 5 ∧ ∃ g', g' < g + 1 ∧ ∃ gp : Nat, gr ≠ gp ∧ w.heap.size ≤ gp ∧ ip6_Parse.J w gr gp R g' 1 _ _
          refine ⟨by decide, g, Nat.lt_succ_self g, gp, NB0, Ggp0, ip6_Parse.J_intro (s) (xa) (xg) (ps) rfl rfl rfl rfl rfl rfl H ?_ (by (with_reducible repeat (first | refine blk_drewN ?_ _ | refine blk_drew ?_ | refine blk_alloc ?_ _)); exact Bgr.out) (by (with_reducible repeat (first | refine blk_drewN ?_ _ | refine blk_drew ?_ | refine blk_alloc ?_ _)); exact Bgp.out) (by repeat (first | exact HB.out | apply pw_below_drewN | apply below_drew1 | apply below_alloc))⟩
          have := HBd.out
          exact ⟨by omega, by omega, this.2.2.1, by omega, by omega⟩
        · rw [if_neg c1] at H
          have c1b := decide_eq_false c1
          by_cases c2 : xa = 8
          · rw [if_pos c2] at H
            subst c2
            clear hA
            go_wp2
            go_step3
            show (1 : Nat) < 5 ∧ ∃ g', g' < g + 1 ∧ ∃ gp : Nat, gr ≠ gp ∧ w.heap.size ≤ gp ∧ ip6_Parse.J w gr gp R g' 1 _ _
            refine ⟨by decide, g, Nat.lt_succ_self g, gp, NB0, Ggp0, ip6_Parse.J_intro (s) (8) (xg) (ps) rfl rfl rfl rfl rfl rfl H ?_ (by (with_reducible repeat (first | refine blk_drewN ?_ _ | refine blk_drew ?_ | refine blk_alloc ?_ _)); exact Bgr.out) (by (with_reducible repeat (first | refine blk_drewN ?_ _ | refine blk_drew ?_ | refine blk_alloc ?_ _)); exact Bgp.out) (by repeat (first | exact HB.out | apply pw_below_drewN | apply below_drew1 | apply below_alloc))⟩
            have := HBd.out
            exact ⟨by omega, by omega, this.2.2.1, by omega, by omega⟩
          · rw [if_neg c2] at H
            have c2b : (xa == 8) = false := beq_eq_false_iff_ne.mpr c2
            have hw : wrap64 (xa + 1) = xa + 1 := by unfold wrap64; omega
            by_cases c3 : 2 ≤ (s.size : Int)
            · rw [if_pos c3] at H
              have c3b := eq_true c3
              have c3c : decide (2 ≤ (s.size : Int)) = true := decide_eq_true c3
              have c3d : (2 ≤ s.size) = True := eq_true (by omega)
              rw [← hw] at H
              by_cases c4 : (s.extract 2 s.size).toList = ([] : List UInt8)
              · rw [if_pos c4] at H
                have c4b : ((s.extract 2 s.size).toList == ([] : List UInt8)) = true := beq_iff_eq.mpr c4
                clear hA c1 c2 c3 c4
                go_wp2
                go_step3
                show (4 : Nat) < 5 ∧ ∃ g', g' < g + 1 ∧ ∃ gp : Nat, gr ≠ gp ∧ w.heap.size ≤ gp ∧ ip6_Parse.J w gr gp R g' 4 _ _
                refine ⟨by decide, g, Nat.lt_succ_self g, gp, NB0, Ggp0, ip6_Parse.J_intro (s.extract 2 s.size) (wrap64 (xa + 1)) (xa) (ps) rfl rfl rfl rfl rfl rfl H ?_ (by (with_reducible repeat (first | refine blk_drewN ?_ _ | refine blk_drew ?_ | refine blk_alloc ?_ _)); exact Bgr.out) (by (with_reducible repeat (first | refine blk_drewN ?_ _ | refine blk_drew ?_ | refine blk_alloc ?_ _)); exact Bgp.out) (by repeat (first | exact HB.out | apply pw_below_drewN | apply below_drew1 | apply below_alloc))⟩
                have := HBd.out
                have h8 : ¬ xa = 8 := beq_eq_false_iff_ne.mp c2b
                rw [hw]
                exact ⟨by omega, by omega, this.2.2.1, by omega, by omega⟩
              · rw [if_neg c4] at H
                have c4b : ((s.extract 2 s.size).toList == ([] : List UInt8)) = false := beq_eq_false_iff_ne.mpr c4
                clear hA c1 c2 c3 c4
                go_wp2
                go_step3
                show (2 : Nat) < 5 ∧ ∃ g', g' < g + 1 ∧ ∃ gp : Nat, gr ≠ gp ∧ w.heap.size ≤ gp ∧ ip6_Parse.J w gr gp R g' 2 _ _
                refine ⟨by decide, g, Nat.lt_succ_self g, gp, NB0, Ggp0, ip6_Parse.J_intro (s.extract 2 s.size) (wrap64 (xa + 1)) (xa) (ps) rfl rfl rfl rfl rfl rfl H ?_ (by (with_reducible repeat (first | refine blk_drewN ?_ _ | refine blk_drew ?_ | refine blk_alloc ?_ _)); exact Bgr.out) (by (with_reducible repeat (first | refine blk_drewN ?_ _ | refine blk_drew ?_ | refine blk_alloc ?_ _)); exact Bgp.out) (by repeat (first | exact HB.out | apply pw_below_drewN | apply below_drew1 | apply below_alloc))⟩
                have := HBd.out
                have h8 : ¬ xa = 8 := beq_eq_false_iff_ne.mp c2b
                rw [hw]
                exact ⟨by omega, by omega, this.2.2.1, by omega, by omega⟩
            · rw [if_neg c3] at H; cases H
    · refine ⟨_, rfl, fun a w1 hJ => ?_⟩
      obtain ⟨gp, NB0, Ggp0, s, xa, xg, ps, V, rfl, HRun, HBd, Bgr, Bgp, HB⟩ := hJ
      have H := HRun.out
      clear HRun
      cases g with
      | zero => exact absurd H (by rw [ip6_Parse.run_z]; exact fun h => by cases h)
      | succ g =>
        rw [ip6_Parse.run_1] at H
        obtain rfl : (([0, 0, 0, 0, 0, 0, 0, 0] : List Int), false) = R := Option.some.inj H
        have hN' := hN.out
        simp only [ip6_Parse.nine, List.getD_cons_zero, List.getD_cons_succ, Prod.mk.injEq] at hN'
        obtain ⟨rfl, rfl, rfl, rfl, rfl, rfl, rfl, rfl, rfl⟩ := hN'
        clear H hN
        go_wp2_with ((with_reducible refine gate_store (t := 24) (p := 2) rfl ?_); refine whole_event (t := 24) (p := 2) (v := ?vo1) (u := ?vu1) (g := gr) (cs := #[.int .u16 0, .int .u16 0, .int .u16 0, .int .u16 0, .int .u16 0, .int .u16 0, .int .u16 0, .int .u16 0]) ?hg ?ho ?hn ?hp ?hv ?hu Bgr.out ?hs ?ht ?h1 ?_; (case ho => rfl); (case hg => rfl); (case hn => rfl); (case hp => rfl); (case hv => rfl); (case hu => rfl); (case hs => rfl); (case ht => kernel_rfl); (case h1 => rfl); intro w22 hbox hwk; have n0_ := Aside0.mk hbox; have n1_ := Aside0.mk (hwk.below HB.out Ggr.out); clear Bgr HB hbox hwk; have Bgr := n0_; have HB := n1_; clear n0_ n1_)
        try dsimp only [Exit.then, YtcpfhnodbgojaaaDoorJ.jumps]
        refine bodyPost_ret (results_ct rfl _ _ gr 24 #[.int .u16 0, .int .u16 0, .int .u16 0, .int .u16 0, .int .u16 0, .int .u16 0, .int .u16 0, .int .u16 0] (0, 0) _ rfl Bgr.out hu24 rfl (by kernel_rfl)) rfl ?_
        exact ⟨rfl, HB.out⟩
    · refine ⟨_, rfl, fun a w1 hJ => ?_⟩
      obtain ⟨gp, NB0, Ggp0, s, xa, xg, ps, V, rfl, HRun, HBd, Bgr, Bgp, HB⟩ := hJ
      have H := HRun.out
      clear HRun
      cases g with
      | zero => exact absurd H (by rw [ip6_Parse.run_z]; exact fun h => by cases h)
      | succ g =>
        rw [ip6_Parse.run_2] at H
        have hA := HBd.out
        by_cases c2 : xa = 8
        · rw [if_pos c2] at H
          subst c2
          clear hA
          go_wp2
          go_step3
          show (1 : Nat) < 5 ∧ ∃ g', g' < g + 1 ∧ ∃ gp : Nat, gr ≠ gp ∧ w.heap.size ≤ gp ∧ ip6_Parse.J w gr gp R g' 1 _ _
          refine ⟨by decide, g, Nat.lt_succ_self g, gp, NB0, Ggp0, ip6_Parse.J_intro (s) (8) (xg) (ps) rfl rfl rfl rfl rfl rfl H ?_ (by (with_reducible repeat (first | refine blk_drewN ?_ _ | refine blk_drew ?_ | refine blk_alloc ?_ _)); exact Bgr.out) (by (with_reducible repeat (first | refine blk_drewN ?_ _ | refine blk_drew ?_ | refine blk_alloc ?_ _)); exact Bgp.out) (by repeat (first | exact HB.out | apply pw_below_drewN | apply below_drew1 | apply below_alloc))⟩
          have := HBd.out
          exact ⟨by omega, by omega, this.2.2.1, by omega, by omega⟩
        · rw [if_neg c2] at H
          have c2b : (xa == 8) = false := beq_eq_false_iff_ne.mpr c2
          obtain ⟨⟨n, many⟩, hh, H⟩ := Option.bind_eq_some_iff.mp H
          dsimp only at H
          have hhex := fun W => ip6_hex.calls g s n many W hh
          clear hh
          by_cases c3 : many = 0
          · rw [if_pos c3] at H
            subst c3
            clear hA c2
            go_wp2_with (first | ((with_reducible refine gate_callee (f := 16) rfl ?_); refine goesL_ (some 17) rfl rfl Tryd.func16 (by kernel_rfl) rfl #[.string s] rfl (by (try simp only [List.map_toArray, List.map_cons, List.map_nil]); first | done | rfl) ?_; refine (hhex _).mono ?_; rintro e w31 ⟨rfl, hb⟩; refine ⟨_, rfl, ?_⟩; have n0_ := Aside0.mk (blk_below Bgr.out hb); have n1_ := Aside0.mk (blk_below Bgp.out hb); have n2_ := Aside0.mk (below_step HB.out hb); clear Bgr Bgp HB hb; have Bgr := n0_; have Bgp := n1_; have HB := n2_; clear n0_ n1_ n2_; have hcell : w31.cell? ⟨gp, xa.toNat, none⟩ = some (.int .u16 (ps.getD xa.toNat 0)) := YtcpfhnodbgojaaaDoorR.arr_cell Bgp.out _ (by have := HBd.out; have h8 : ¬ xa = 8 := beq_eq_false_iff_ne.mp c2b; omega); have hfro := blk_frozen Bgp.out xa.toNat))
            go_step3
            show (1 : Nat) < 5 ∧ ∃ g', g' < g + 1 ∧ ∃ gp : Nat, gr ≠ gp ∧ w.heap.size ≤ gp ∧ ip6_Parse.J w gr gp R g' 1 _ _
            refine ⟨by decide, g, Nat.lt_succ_self g, gp, NB0, Ggp0, ip6_Parse.J_intro (s) (xa) (xg) (ps) rfl rfl rfl rfl rfl rfl H ?_ (by (with_reducible repeat (first | refine blk_drewN ?_ _ | refine blk_drew ?_ | refine blk_alloc ?_ _)); exact Bgr.out) (by (with_reducible repeat (first | refine blk_drewN ?_ _ | refine blk_drew ?_ | refine blk_alloc ?_ _)); exact Bgp.out) (by repeat (first | exact HB.out | apply pw_below_drewN | apply below_drew1 | apply below_alloc))⟩
            have := HBd.out
            exact ⟨by omega, by omega, this.2.2.1, by omega, by omega⟩
          · rw [if_neg c3] at H
            have c3b : (many == 0) = false := beq_eq_false_iff_ne.mpr c3
            by_cases c4 : 0 ≤ many ∧ many ≤ (s.size : Int)
            · rw [if_pos c4] at H
              obtain ⟨c4x, c4y⟩ := c4
              have p1 := eq_true c4x
              have p2 := eq_true c4y
              have p3 : decide (0 ≤ many) = true := decide_eq_true c4x
              have p4 : decide (many ≤ (s.size : Int)) = true := decide_eq_true c4y
              have px : (0 ≤ xa) = True := eq_true (by omega)
              have py : (xa < 8) = True := eq_true (by omega)
              have hw : wrap64 (xa + 1) = xa + 1 := by unfold wrap64; omega
              by_cases c5 : many < (s.size : Int)
              · rw [if_pos c5] at H
                have c5b : decide (many < (s.size : Int)) = true := decide_eq_true c5
                have hxm := bt_at s many
                have p5 := eq_true c5
                by_cases c6 : bt s many = 46
                · rw [if_pos c6] at H
                  have c6b : (bt s many == 46) = true := beq_iff_eq.mpr c6
                  clear hA c2 c3 c6
                  go_wp2_with (first | ((with_reducible refine gate_callee (f := 16) rfl ?_); refine goesL_ (some 17) rfl rfl Tryd.func16 (by kernel_rfl) rfl #[.string s] rfl (by (try simp only [List.map_toArray, List.map_cons, List.map_nil]); first | done | rfl) ?_; refine (hhex _).mono ?_; rintro e w31 ⟨rfl, hb⟩; refine ⟨_, rfl, ?_⟩; have n0_ := Aside0.mk (blk_below Bgr.out hb); have n1_ := Aside0.mk (blk_below Bgp.out hb); have n2_ := Aside0.mk (below_step HB.out hb); clear Bgr Bgp HB hb; have Bgr := n0_; have Bgp := n1_; have HB := n2_; clear n0_ n1_ n2_; have hcell : w31.cell? ⟨gp, xa.toNat, none⟩ = some (.int .u16 (ps.getD xa.toNat 0)) := YtcpfhnodbgojaaaDoorR.arr_cell Bgp.out _ (by have := HBd.out; have h8 : ¬ xa = 8 := beq_eq_false_iff_ne.mp c2b; omega); have hfro := blk_frozen Bgp.out xa.toNat))
                  go_step3
                  show (3 : Nat) < 5 ∧ ∃ g', g' < g + 1 ∧ ∃ gp : Nat, gr ≠ gp ∧ w.heap.size ≤ gp ∧ ip6_Parse.J w gr gp R g' 3 _ _
                  refine ⟨by decide, g, Nat.lt_succ_self g, gp, NB0, Ggp0, ip6_Parse.J_intro (s) (xa) (xg) (ps) rfl rfl rfl rfl rfl rfl H ?_ (by (with_reducible repeat (first | refine blk_drewN ?_ _ | refine blk_drew ?_ | refine blk_alloc ?_ _)); exact Bgr.out) (by (with_reducible repeat (first | refine blk_drewN ?_ _ | refine blk_drew ?_ | refine blk_alloc ?_ _)); exact Bgp.out) (by repeat (first | exact HB.out | apply pw_below_drewN | apply below_drew1 | apply below_alloc))⟩
                  have := HBd.out
                  have h8 : ¬ xa = 8 := beq_eq_false_iff_ne.mp c2b
                  exact ⟨by omega, by omega, this.2.2.1, by omega, by omega⟩
                · rw [if_neg c6] at H
                  have c6b : (bt s many == 46) = false := beq_eq_false_iff_ne.mpr c6
                  rw [← hw] at H
                  unfold ip6_Parse.after at H
                  obtain ⟨s2, hs2⟩ : ∃ x, x = s.extract many.toNat s.size := ⟨_, rfl⟩
                  rw [← hs2] at H
                  have hs3 : s.extract many.toNat s.size = s2 := hs2.symm
                  clear hs2
                  by_cases d1 : s2.toList = ([] : List UInt8)
                  · rw [if_pos d1] at H
                    have d1b : (s2.toList == ([] : List UInt8)) = true := beq_iff_eq.mpr d1
                    clear hA c2 c3 d1
                    go_wp2_with (first | ((with_reducible refine gate_callee (f := 16) rfl ?_); refine goesL_ (some 17) rfl rfl Tryd.func16 (by kernel_rfl) rfl #[.string s] rfl (by (try simp only [List.map_toArray, List.map_cons, List.map_nil]); first | done | rfl) ?_; refine (hhex _).mono ?_; rintro e w31 ⟨rfl, hb⟩; refine ⟨_, rfl, ?_⟩; have n0_ := Aside0.mk (blk_below Bgr.out hb); have n1_ := Aside0.mk (blk_below Bgp.out hb); have n2_ := Aside0.mk (below_step HB.out hb); clear Bgr Bgp HB hb; have Bgr := n0_; have Bgp := n1_; have HB := n2_; clear n0_ n1_ n2_; have hcell : w31.cell? ⟨gp, xa.toNat, none⟩ = some (.int .u16 (ps.getD xa.toNat 0)) := YtcpfhnodbgojaaaDoorR.arr_cell Bgp.out _ (by have := HBd.out; have h8 : ¬ xa = 8 := beq_eq_false_iff_ne.mp c2b; omega); have hfro := blk_frozen Bgp.out xa.toNat))
                    go_step3
                    show (4 : Nat) < 5 ∧ ∃ g', g' < g + 1 ∧ ∃ gp : Nat, gr ≠ gp ∧ w.heap.size ≤ gp ∧ ip6_Parse.J w gr gp R g' 4 _ _
                    refine ⟨by decide, g, Nat.lt_succ_self g, gp, NB0, Ggp0, ip6_Parse.J_intro (s2) (wrap64 (xa + 1)) (xg) (ps.set xa.toNat n) rfl rfl rfl rfl (by first | rfl | exact congrArg (Value.int .i64) hw.symm) rfl H ?_ (by (with_reducible repeat (first | refine blk_drewN ?_ _ | refine blk_drew ?_ | refine blk_alloc ?_ _)); exact blk_far Bgr.out NB0 _) (by (with_reducible repeat (first | refine blk_drewN ?_ _ | refine blk_drew ?_ | refine blk_alloc ?_ _)); exact blk_put Bgp.out xa.toNat _ (YtcpfhnodbgojaaaDoorR.arr_set _ _ _)) (by repeat (first | exact below_set HB.out Ggp0 | apply pw_below_drewN | apply below_drew1))⟩
                    have := HBd.out
                    have h8 : ¬ xa = 8 := beq_eq_false_iff_ne.mp c2b
                    rw [hw]
                    exact ⟨by omega, by omega, by rw [List.length_set]; exact this.2.2.1, by omega, by omega⟩
                  · rw [if_neg d1] at H
                    have d1b : (s2.toList == ([] : List UInt8)) = false := beq_eq_false_iff_ne.mpr d1
                    obtain ⟨b, hb2, H⟩ := Option.bind_eq_some_iff.mp H
                    have hpre2 := fun W => strings_HasPrefix.calls s2 (⟨#[58, 58]⟩ : ByteArray) b W hb2
                    cases b with
                    | true =>
                      rw [if_pos rfl] at H
                      clear hA c2 c3 d1 hb2
                      go_wp2_with (first | ((with_reducible refine gate_callee (f := 16) rfl ?_); refine goesL_ (some 17) rfl rfl Tryd.func16 (by kernel_rfl) rfl #[.string s] rfl (by (try simp only [List.map_toArray, List.map_cons, List.map_nil]); first | done | rfl) ?_; refine (hhex _).mono ?_; rintro e w31 ⟨rfl, hb⟩; refine ⟨_, rfl, ?_⟩; have n0_ := Aside0.mk (blk_below Bgr.out hb); have n1_ := Aside0.mk (blk_below Bgp.out hb); have n2_ := Aside0.mk (below_step HB.out hb); clear Bgr Bgp HB hb; have Bgr := n0_; have Bgp := n1_; have HB := n2_; clear n0_ n1_ n2_; have hcell : w31.cell? ⟨gp, xa.toNat, none⟩ = some (.int .u16 (ps.getD xa.toNat 0)) := YtcpfhnodbgojaaaDoorR.arr_cell Bgp.out _ (by have := HBd.out; have h8 : ¬ xa = 8 := beq_eq_false_iff_ne.mp c2b; omega); have hfro := blk_frozen Bgp.out xa.toNat) | ((with_reducible refine gate_callee (f := 15) rfl ?_); refine goesL_ (some 43) rfl rfl Tryd.func15 (by kernel_rfl) rfl #[.string s2, .string (⟨#[58, 58]⟩ : ByteArray)] rfl (by (try simp only [List.map_toArray, List.map_cons, List.map_nil]); first | done | rfl) ?_; refine (hpre2 _).mono ?_; rintro e w' ⟨rfl, ⟨nd, rfl⟩⟩; refine ⟨_, rfl, ?_⟩))
                      go_step3
                      show (0 : Nat) < 5 ∧ ∃ g', g' < g + 1 ∧ ∃ gp : Nat, gr ≠ gp ∧ w.heap.size ≤ gp ∧ ip6_Parse.J w gr gp R g' 0 _ _
                      refine ⟨by decide, g, Nat.lt_succ_self g, gp, NB0, Ggp0, ip6_Parse.J_intro (s2) (wrap64 (xa + 1)) (xg) (ps.set xa.toNat n) rfl rfl rfl rfl (by first | rfl | exact congrArg (Value.int .i64) hw.symm) rfl H ?_ (by (with_reducible repeat (first | refine blk_drewN ?_ _ | refine blk_drew ?_ | refine blk_alloc ?_ _)); exact blk_far Bgr.out NB0 _) (by (with_reducible repeat (first | refine blk_drewN ?_ _ | refine blk_drew ?_ | refine blk_alloc ?_ _)); exact blk_put Bgp.out xa.toNat _ (YtcpfhnodbgojaaaDoorR.arr_set _ _ _)) (by repeat (first | exact below_set HB.out Ggp0 | apply pw_below_drewN | apply below_drew1))⟩
                      have := HBd.out
                      have h8 : ¬ xa = 8 := beq_eq_false_iff_ne.mp c2b
                      rw [hw]
                      exact ⟨by omega, by omega, by rw [List.length_set]; exact this.2.2.1, by omega, by omega⟩
                    | false =>
                      rw [if_neg (by decide)] at H
                      by_cases d2 : 0 < (s2.size : Int)
                      · rw [if_pos d2] at H
                        have q0 : (0 < s2.size) = True := eq_true (by omega)
                        have q1 : ((0 : Int) < (s2.size : Int)) = True := eq_true d2
                        have q2 : ((1 : Int) ≤ (s2.size : Int)) = True := eq_true (by omega)
                        have q3 : (1 ≤ s2.size) = True := eq_true (by omega)
                        have hx0 : ∀ h : 0 < s2.size, ((s2[0]'h).toNat : Int) = bt s2 0 := bt_at s2 0
                        by_cases d3 : bt s2 0 = 58
                        · rw [if_pos d3] at H
                          have d3b : (bt s2 0 != 58) = false := bne_eq_false_iff_eq.mpr d3
                          clear hA c2 c3 d1 d2 hb2
                          go_wp2_with (first | ((with_reducible refine gate_callee (f := 16) rfl ?_); refine goesL_ (some 17) rfl rfl Tryd.func16 (by kernel_rfl) rfl #[.string s] rfl (by (try simp only [List.map_toArray, List.map_cons, List.map_nil]); first | done | rfl) ?_; refine (hhex _).mono ?_; rintro e w31 ⟨rfl, hb⟩; refine ⟨_, rfl, ?_⟩; have n0_ := Aside0.mk (blk_below Bgr.out hb); have n1_ := Aside0.mk (blk_below Bgp.out hb); have n2_ := Aside0.mk (below_step HB.out hb); clear Bgr Bgp HB hb; have Bgr := n0_; have Bgp := n1_; have HB := n2_; clear n0_ n1_ n2_; have hcell : w31.cell? ⟨gp, xa.toNat, none⟩ = some (.int .u16 (ps.getD xa.toNat 0)) := YtcpfhnodbgojaaaDoorR.arr_cell Bgp.out _ (by have := HBd.out; have h8 : ¬ xa = 8 := beq_eq_false_iff_ne.mp c2b; omega); have hfro := blk_frozen Bgp.out xa.toNat) | ((with_reducible refine gate_callee (f := 15) rfl ?_); refine goesL_ (some 43) rfl rfl Tryd.func15 (by kernel_rfl) rfl #[.string s2, .string (⟨#[58, 58]⟩ : ByteArray)] rfl (by (try simp only [List.map_toArray, List.map_cons, List.map_nil]); first | done | rfl) ?_; refine (hpre2 _).mono ?_; rintro e w' ⟨rfl, ⟨nd, rfl⟩⟩; refine ⟨_, rfl, ?_⟩))
                          go_step3
                          show (2 : Nat) < 5 ∧ ∃ g', g' < g + 1 ∧ ∃ gp : Nat, gr ≠ gp ∧ w.heap.size ≤ gp ∧ ip6_Parse.J w gr gp R g' 2 _ _
                          refine ⟨by decide, g, Nat.lt_succ_self g, gp, NB0, Ggp0, ip6_Parse.J_intro (s2.extract 1 s2.size) (wrap64 (xa + 1)) (xg) (ps.set xa.toNat n) rfl rfl rfl rfl (by first | rfl | exact congrArg (Value.int .i64) hw.symm) rfl H ?_ (by (with_reducible repeat (first | refine blk_drewN ?_ _ | refine blk_drew ?_ | refine blk_alloc ?_ _)); exact blk_far Bgr.out NB0 _) (by (with_reducible repeat (first | refine blk_drewN ?_ _ | refine blk_drew ?_ | refine blk_alloc ?_ _)); exact blk_put Bgp.out xa.toNat _ (YtcpfhnodbgojaaaDoorR.arr_set _ _ _)) (by repeat (first | exact below_set HB.out Ggp0 | apply pw_below_drewN | apply below_drew1))⟩
                          have := HBd.out
                          have h8 : ¬ xa = 8 := beq_eq_false_iff_ne.mp c2b
                          rw [hw]
                          exact ⟨by omega, by omega, by rw [List.length_set]; exact this.2.2.1, by omega, by omega⟩
                        · rw [if_neg d3] at H
                          have d3b : (bt s2 0 != 58) = true := bne_iff_ne.mpr d3
                          clear hA c2 c3 d1 d2 d3 hb2
                          go_wp2_with (first | ((with_reducible refine gate_callee (f := 16) rfl ?_); refine goesL_ (some 17) rfl rfl Tryd.func16 (by kernel_rfl) rfl #[.string s] rfl (by (try simp only [List.map_toArray, List.map_cons, List.map_nil]); first | done | rfl) ?_; refine (hhex _).mono ?_; rintro e w31 ⟨rfl, hb⟩; refine ⟨_, rfl, ?_⟩; have n0_ := Aside0.mk (blk_below Bgr.out hb); have n1_ := Aside0.mk (blk_below Bgp.out hb); have n2_ := Aside0.mk (below_step HB.out hb); clear Bgr Bgp HB hb; have Bgr := n0_; have Bgp := n1_; have HB := n2_; clear n0_ n1_ n2_; have hcell : w31.cell? ⟨gp, xa.toNat, none⟩ = some (.int .u16 (ps.getD xa.toNat 0)) := YtcpfhnodbgojaaaDoorR.arr_cell Bgp.out _ (by have := HBd.out; have h8 : ¬ xa = 8 := beq_eq_false_iff_ne.mp c2b; omega); have hfro := blk_frozen Bgp.out xa.toNat) | ((with_reducible refine gate_callee (f := 15) rfl ?_); refine goesL_ (some 43) rfl rfl Tryd.func15 (by kernel_rfl) rfl #[.string s2, .string (⟨#[58, 58]⟩ : ByteArray)] rfl (by (try simp only [List.map_toArray, List.map_cons, List.map_nil]); first | done | rfl) ?_; refine (hpre2 _).mono ?_; rintro e w' ⟨rfl, ⟨nd, rfl⟩⟩; refine ⟨_, rfl, ?_⟩))
                          go_step3
                          show (1 : Nat) < 5 ∧ ∃ g', g' < g + 1 ∧ ∃ gp : Nat, gr ≠ gp ∧ w.heap.size ≤ gp ∧ ip6_Parse.J w gr gp R g' 1 _ _
                          refine ⟨by decide, g, Nat.lt_succ_self g, gp, NB0, Ggp0, ip6_Parse.J_intro (s2) (wrap64 (xa + 1)) (xg) (ps.set xa.toNat n) rfl rfl rfl rfl (by first | rfl | exact congrArg (Value.int .i64) hw.symm) rfl H ?_ (by (with_reducible repeat (first | refine blk_drewN ?_ _ | refine blk_drew ?_ | refine blk_alloc ?_ _)); exact blk_far Bgr.out NB0 _) (by (with_reducible repeat (first | refine blk_drewN ?_ _ | refine blk_drew ?_ | refine blk_alloc ?_ _)); exact blk_put Bgp.out xa.toNat _ (YtcpfhnodbgojaaaDoorR.arr_set _ _ _)) (by repeat (first | exact below_set HB.out Ggp0 | apply pw_below_drewN | apply below_drew1))⟩
                          have := HBd.out
                          have h8 : ¬ xa = 8 := beq_eq_false_iff_ne.mp c2b
                          rw [hw]
                          exact ⟨by omega, by omega, by rw [List.length_set]; exact this.2.2.1, by omega, by omega⟩
                      · rw [if_neg d2] at H; cases H
              · rw [if_neg c5] at H
                have c5b : decide (many < (s.size : Int)) = false := decide_eq_false c5
                rw [← hw] at H
                unfold ip6_Parse.after at H
                obtain ⟨s2, hs2⟩ : ∃ x, x = s.extract many.toNat s.size := ⟨_, rfl⟩
                rw [← hs2] at H
                have hs3 : s.extract many.toNat s.size = s2 := hs2.symm
                clear hs2
                by_cases d1 : s2.toList = ([] : List UInt8)
                · rw [if_pos d1] at H
                  have d1b : (s2.toList == ([] : List UInt8)) = true := beq_iff_eq.mpr d1
                  clear hA c2 c3 d1
                  go_wp2_with (first | ((with_reducible refine gate_callee (f := 16) rfl ?_); refine goesL_ (some 17) rfl rfl Tryd.func16 (by kernel_rfl) rfl #[.string s] rfl (by (try simp only [List.map_toArray, List.map_cons, List.map_nil]); first | done | rfl) ?_; refine (hhex _).mono ?_; rintro e w31 ⟨rfl, hb⟩; refine ⟨_, rfl, ?_⟩; have n0_ := Aside0.mk (blk_below Bgr.out hb); have n1_ := Aside0.mk (blk_below Bgp.out hb); have n2_ := Aside0.mk (below_step HB.out hb); clear Bgr Bgp HB hb; have Bgr := n0_; have Bgp := n1_; have HB := n2_; clear n0_ n1_ n2_; have hcell : w31.cell? ⟨gp, xa.toNat, none⟩ = some (.int .u16 (ps.getD xa.toNat 0)) := YtcpfhnodbgojaaaDoorR.arr_cell Bgp.out _ (by have := HBd.out; have h8 : ¬ xa = 8 := beq_eq_false_iff_ne.mp c2b; omega); have hfro := blk_frozen Bgp.out xa.toNat))
                  go_step3
                  show (4 : Nat) < 5 ∧ ∃ g', g' < g + 1 ∧ ∃ gp : Nat, gr ≠ gp ∧ w.heap.size ≤ gp ∧ ip6_Parse.J w gr gp R g' 4 _ _
                  refine ⟨by decide, g, Nat.lt_succ_self g, gp, NB0, Ggp0, ip6_Parse.J_intro (s2) (wrap64 (xa + 1)) (xg) (ps.set xa.toNat n) rfl rfl rfl rfl (by first | rfl | exact congrArg (Value.int .i64) hw.symm) rfl H ?_ (by (with_reducible repeat (first | refine blk_drewN ?_ _ | refine blk_drew ?_ | refine blk_alloc ?_ _)); exact blk_far Bgr.out NB0 _) (by (with_reducible repeat (first | refine blk_drewN ?_ _ | refine blk_drew ?_ | refine blk_alloc ?_ _)); exact blk_put Bgp.out xa.toNat _ (YtcpfhnodbgojaaaDoorR.arr_set _ _ _)) (by repeat (first | exact below_set HB.out Ggp0 | apply pw_below_drewN | apply below_drew1))⟩
                  have := HBd.out
                  have h8 : ¬ xa = 8 := beq_eq_false_iff_ne.mp c2b
                  rw [hw]
                  exact ⟨by omega, by omega, by rw [List.length_set]; exact this.2.2.1, by omega, by omega⟩
                · rw [if_neg d1] at H
                  have d1b : (s2.toList == ([] : List UInt8)) = false := beq_eq_false_iff_ne.mpr d1
                  obtain ⟨b, hb2, H⟩ := Option.bind_eq_some_iff.mp H
                  have hpre2 := fun W => strings_HasPrefix.calls s2 (⟨#[58, 58]⟩ : ByteArray) b W hb2
                  cases b with
                  | true =>
                    rw [if_pos rfl] at H
                    clear hA c2 c3 d1 hb2
                    go_wp2_with (first | ((with_reducible refine gate_callee (f := 16) rfl ?_); refine goesL_ (some 17) rfl rfl Tryd.func16 (by kernel_rfl) rfl #[.string s] rfl (by (try simp only [List.map_toArray, List.map_cons, List.map_nil]); first | done | rfl) ?_; refine (hhex _).mono ?_; rintro e w31 ⟨rfl, hb⟩; refine ⟨_, rfl, ?_⟩; have n0_ := Aside0.mk (blk_below Bgr.out hb); have n1_ := Aside0.mk (blk_below Bgp.out hb); have n2_ := Aside0.mk (below_step HB.out hb); clear Bgr Bgp HB hb; have Bgr := n0_; have Bgp := n1_; have HB := n2_; clear n0_ n1_ n2_; have hcell : w31.cell? ⟨gp, xa.toNat, none⟩ = some (.int .u16 (ps.getD xa.toNat 0)) := YtcpfhnodbgojaaaDoorR.arr_cell Bgp.out _ (by have := HBd.out; have h8 : ¬ xa = 8 := beq_eq_false_iff_ne.mp c2b; omega); have hfro := blk_frozen Bgp.out xa.toNat) | ((with_reducible refine gate_callee (f := 15) rfl ?_); refine goesL_ (some 43) rfl rfl Tryd.func15 (by kernel_rfl) rfl #[.string s2, .string (⟨#[58, 58]⟩ : ByteArray)] rfl (by (try simp only [List.map_toArray, List.map_cons, List.map_nil]); first | done | rfl) ?_; refine (hpre2 _).mono ?_; rintro e w' ⟨rfl, ⟨nd, rfl⟩⟩; refine ⟨_, rfl, ?_⟩))
                    go_step3
                    show (0 : Nat) < 5 ∧ ∃ g', g' < g + 1 ∧ ∃ gp : Nat, gr ≠ gp ∧ w.heap.size ≤ gp ∧ ip6_Parse.J w gr gp R g' 0 _ _
                    refine ⟨by decide, g, Nat.lt_succ_self g, gp, NB0, Ggp0, ip6_Parse.J_intro (s2) (wrap64 (xa + 1)) (xg) (ps.set xa.toNat n) rfl rfl rfl rfl (by first | rfl | exact congrArg (Value.int .i64) hw.symm) rfl H ?_ (by (with_reducible repeat (first | refine blk_drewN ?_ _ | refine blk_drew ?_ | refine blk_alloc ?_ _)); exact blk_far Bgr.out NB0 _) (by (with_reducible repeat (first | refine blk_drewN ?_ _ | refine blk_drew ?_ | refine blk_alloc ?_ _)); exact blk_put Bgp.out xa.toNat _ (YtcpfhnodbgojaaaDoorR.arr_set _ _ _)) (by repeat (first | exact below_set HB.out Ggp0 | apply pw_below_drewN | apply below_drew1))⟩
                    have := HBd.out
                    have h8 : ¬ xa = 8 := beq_eq_false_iff_ne.mp c2b
                    rw [hw]
                    exact ⟨by omega, by omega, by rw [List.length_set]; exact this.2.2.1, by omega, by omega⟩
                  | false =>
                    rw [if_neg (by decide)] at H
                    by_cases d2 : 0 < (s2.size : Int)
                    · rw [if_pos d2] at H
                      have q0 : (0 < s2.size) = True := eq_true (by omega)
                      have q1 : ((0 : Int) < (s2.size : Int)) = True := eq_true d2
                      have q2 : ((1 : Int) ≤ (s2.size : Int)) = True := eq_true (by omega)
                      have q3 : (1 ≤ s2.size) = True := eq_true (by omega)
                      have hx0 : ∀ h : 0 < s2.size, ((s2[0]'h).toNat : Int) = bt s2 0 := bt_at s2 0
                      by_cases d3 : bt s2 0 = 58
                      · rw [if_pos d3] at H
                        have d3b : (bt s2 0 != 58) = false := bne_eq_false_iff_eq.mpr d3
                        clear hA c2 c3 d1 d2 hb2
                        go_wp2_with (first | ((with_reducible refine gate_callee (f := 16) rfl ?_); refine goesL_ (some 17) rfl rfl Tryd.func16 (by kernel_rfl) rfl #[.string s] rfl (by (try simp only [List.map_toArray, List.map_cons, List.map_nil]); first | done | rfl) ?_; refine (hhex _).mono ?_; rintro e w31 ⟨rfl, hb⟩; refine ⟨_, rfl, ?_⟩; have n0_ := Aside0.mk (blk_below Bgr.out hb); have n1_ := Aside0.mk (blk_below Bgp.out hb); have n2_ := Aside0.mk (below_step HB.out hb); clear Bgr Bgp HB hb; have Bgr := n0_; have Bgp := n1_; have HB := n2_; clear n0_ n1_ n2_; have hcell : w31.cell? ⟨gp, xa.toNat, none⟩ = some (.int .u16 (ps.getD xa.toNat 0)) := YtcpfhnodbgojaaaDoorR.arr_cell Bgp.out _ (by have := HBd.out; have h8 : ¬ xa = 8 := beq_eq_false_iff_ne.mp c2b; omega); have hfro := blk_frozen Bgp.out xa.toNat) | ((with_reducible refine gate_callee (f := 15) rfl ?_); refine goesL_ (some 43) rfl rfl Tryd.func15 (by kernel_rfl) rfl #[.string s2, .string (⟨#[58, 58]⟩ : ByteArray)] rfl (by (try simp only [List.map_toArray, List.map_cons, List.map_nil]); first | done | rfl) ?_; refine (hpre2 _).mono ?_; rintro e w' ⟨rfl, ⟨nd, rfl⟩⟩; refine ⟨_, rfl, ?_⟩))
                        go_step3
                        show (2 : Nat) < 5 ∧ ∃ g', g' < g + 1 ∧ ∃ gp : Nat, gr ≠ gp ∧ w.heap.size ≤ gp ∧ ip6_Parse.J w gr gp R g' 2 _ _
                        refine ⟨by decide, g, Nat.lt_succ_self g, gp, NB0, Ggp0, ip6_Parse.J_intro (s2.extract 1 s2.size) (wrap64 (xa + 1)) (xg) (ps.set xa.toNat n) rfl rfl rfl rfl (by first | rfl | exact congrArg (Value.int .i64) hw.symm) rfl H ?_ (by (with_reducible repeat (first | refine blk_drewN ?_ _ | refine blk_drew ?_ | refine blk_alloc ?_ _)); exact blk_far Bgr.out NB0 _) (by (with_reducible repeat (first | refine blk_drewN ?_ _ | refine blk_drew ?_ | refine blk_alloc ?_ _)); exact blk_put Bgp.out xa.toNat _ (YtcpfhnodbgojaaaDoorR.arr_set _ _ _)) (by repeat (first | exact below_set HB.out Ggp0 | apply pw_below_drewN | apply below_drew1))⟩
                        have := HBd.out
                        have h8 : ¬ xa = 8 := beq_eq_false_iff_ne.mp c2b
                        rw [hw]
                        exact ⟨by omega, by omega, by rw [List.length_set]; exact this.2.2.1, by omega, by omega⟩
                      · rw [if_neg d3] at H
                        have d3b : (bt s2 0 != 58) = true := bne_iff_ne.mpr d3
                        clear hA c2 c3 d1 d2 d3 hb2
                        go_wp2_with (first | ((with_reducible refine gate_callee (f := 16) rfl ?_); refine goesL_ (some 17) rfl rfl Tryd.func16 (by kernel_rfl) rfl #[.string s] rfl (by (try simp only [List.map_toArray, List.map_cons, List.map_nil]); first | done | rfl) ?_; refine (hhex _).mono ?_; rintro e w31 ⟨rfl, hb⟩; refine ⟨_, rfl, ?_⟩; have n0_ := Aside0.mk (blk_below Bgr.out hb); have n1_ := Aside0.mk (blk_below Bgp.out hb); have n2_ := Aside0.mk (below_step HB.out hb); clear Bgr Bgp HB hb; have Bgr := n0_; have Bgp := n1_; have HB := n2_; clear n0_ n1_ n2_; have hcell : w31.cell? ⟨gp, xa.toNat, none⟩ = some (.int .u16 (ps.getD xa.toNat 0)) := YtcpfhnodbgojaaaDoorR.arr_cell Bgp.out _ (by have := HBd.out; have h8 : ¬ xa = 8 := beq_eq_false_iff_ne.mp c2b; omega); have hfro := blk_frozen Bgp.out xa.toNat) | ((with_reducible refine gate_callee (f := 15) rfl ?_); refine goesL_ (some 43) rfl rfl Tryd.func15 (by kernel_rfl) rfl #[.string s2, .string (⟨#[58, 58]⟩ : ByteArray)] rfl (by (try simp only [List.map_toArray, List.map_cons, List.map_nil]); first | done | rfl) ?_; refine (hpre2 _).mono ?_; rintro e w' ⟨rfl, ⟨nd, rfl⟩⟩; refine ⟨_, rfl, ?_⟩))
                        go_step3
                        show (1 : Nat) < 5 ∧ ∃ g', g' < g + 1 ∧ ∃ gp : Nat, gr ≠ gp ∧ w.heap.size ≤ gp ∧ ip6_Parse.J w gr gp R g' 1 _ _
                        refine ⟨by decide, g, Nat.lt_succ_self g, gp, NB0, Ggp0, ip6_Parse.J_intro (s2) (wrap64 (xa + 1)) (xg) (ps.set xa.toNat n) rfl rfl rfl rfl (by first | rfl | exact congrArg (Value.int .i64) hw.symm) rfl H ?_ (by (with_reducible repeat (first | refine blk_drewN ?_ _ | refine blk_drew ?_ | refine blk_alloc ?_ _)); exact blk_far Bgr.out NB0 _) (by (with_reducible repeat (first | refine blk_drewN ?_ _ | refine blk_drew ?_ | refine blk_alloc ?_ _)); exact blk_put Bgp.out xa.toNat _ (YtcpfhnodbgojaaaDoorR.arr_set _ _ _)) (by repeat (first | exact below_set HB.out Ggp0 | apply pw_below_drewN | apply below_drew1))⟩
                        have := HBd.out
                        have h8 : ¬ xa = 8 := beq_eq_false_iff_ne.mp c2b
                        rw [hw]
                        exact ⟨by omega, by omega, by rw [List.length_set]; exact this.2.2.1, by omega, by omega⟩
                    · rw [if_neg d2] at H; cases H
            · rw [if_neg c4] at H; cases H
    · refine ⟨_, rfl, fun a w1 hJ => ?_⟩
      obtain ⟨gp, NB0, Ggp0, s, xa, xg, ps, V, rfl, HRun, HBd, Bgr, Bgp, HB⟩ := hJ
      have H := HRun.out
      clear HRun
      cases g with
      | zero => exact absurd H (by rw [ip6_Parse.run_z]; exact fun h => by cases h)
      | succ g =>
        rw [ip6_Parse.run_3] at H
        have hA := HBd.out
        obtain ⟨⟨n, m, ok⟩, hh, H⟩ := Option.bind_eq_some_iff.mp H
        dsimp only at H
        have hfour := fun W hE => ip6_four.calls g s n m ok W hE hh
        clear hh
        cases ok with
        | false =>
          rw [if_neg (by decide)] at H
          clear hA
          go_wp2_with (first | ((with_reducible refine gate_callee (f := 17) rfl ?_); refine goesL_ (some 64) rfl rfl Tryd.func17 (by kernel_rfl) rfl #[.string s] rfl (by (try simp only [List.map_toArray, List.map_cons, List.map_nil]); first | done | rfl) ?_; refine (hfour _ (EnvOK.step HE.out HB.out)).mono ?_; rintro e w31 ⟨rfl, hb⟩; refine ⟨_, rfl, ?_⟩; have n0_ := Aside0.mk (blk_below Bgr.out hb); have n1_ := Aside0.mk (blk_below Bgp.out hb); have n2_ := Aside0.mk (below_step HB.out hb); clear Bgr Bgp HB hb; have Bgr := n0_; have Bgp := n1_; have HB := n2_; clear n0_ n1_ n2_))
          go_step3
          show (1 : Nat) < 5 ∧ ∃ g', g' < g + 1 ∧ ∃ gp : Nat, gr ≠ gp ∧ w.heap.size ≤ gp ∧ ip6_Parse.J w gr gp R g' 1 _ _
          refine ⟨by decide, g, Nat.lt_succ_self g, gp, NB0, Ggp0, ip6_Parse.J_intro (s) (xa) (xg) (ps) rfl rfl rfl rfl rfl rfl H ?_ (by (with_reducible repeat (first | refine blk_drewN ?_ _ | refine blk_drew ?_ | refine blk_alloc ?_ _)); exact Bgr.out) (by (with_reducible repeat (first | refine blk_drewN ?_ _ | refine blk_drew ?_ | refine blk_alloc ?_ _)); exact Bgp.out) (by repeat (first | exact HB.out | apply pw_below_drewN | apply below_drew1 | apply below_alloc))⟩
          have := HBd.out
          exact ⟨by omega, by omega, this.2.2.1, by omega, by omega⟩
        | true =>
          rw [if_pos rfl] at H
          by_cases c6 : xa > 6
          · rw [if_pos c6] at H
            have c6b : decide (6 < xa) = true := decide_eq_true c6
            clear hA c6
            go_wp2_with (first | ((with_reducible refine gate_callee (f := 17) rfl ?_); refine goesL_ (some 64) rfl rfl Tryd.func17 (by kernel_rfl) rfl #[.string s] rfl (by (try simp only [List.map_toArray, List.map_cons, List.map_nil]); first | done | rfl) ?_; refine (hfour _ (EnvOK.step HE.out HB.out)).mono ?_; rintro e w31 ⟨rfl, hb⟩; refine ⟨_, rfl, ?_⟩; have n0_ := Aside0.mk (blk_below Bgr.out hb); have n1_ := Aside0.mk (blk_below Bgp.out hb); have n2_ := Aside0.mk (below_step HB.out hb); clear Bgr Bgp HB hb; have Bgr := n0_; have Bgp := n1_; have HB := n2_; clear n0_ n1_ n2_))
            go_step3
            show (1 : Nat) < 5 ∧ ∃ g', g' < g + 1 ∧ ∃ gp : Nat, gr ≠ gp ∧ w.heap.size ≤ gp ∧ ip6_Parse.J w gr gp R g' 1 _ _
            refine ⟨by decide, g, Nat.lt_succ_self g, gp, NB0, Ggp0, ip6_Parse.J_intro (s) (xa) (xg) (ps) rfl rfl rfl rfl rfl rfl H ?_ (by (with_reducible repeat (first | refine blk_drewN ?_ _ | refine blk_drew ?_ | refine blk_alloc ?_ _)); exact Bgr.out) (by (with_reducible repeat (first | refine blk_drewN ?_ _ | refine blk_drew ?_ | refine blk_alloc ?_ _)); exact Bgp.out) (by repeat (first | exact HB.out | apply pw_below_drewN | apply below_drew1 | apply below_alloc))⟩
            have := HBd.out
            exact ⟨by omega, by omega, this.2.2.1, by omega, by omega⟩
          · rw [if_neg c6] at H
            have c6b : decide (6 < xa) = false := decide_eq_false c6
            have hw1 : wrap64 (xa + 1) = xa + 1 := by unfold wrap64; omega
            have hw2 : wrap64 (xa + 2) = xa + 2 := by unfold wrap64; omega
            have px : (0 ≤ xa) = True := eq_true (by omega)
            have py : (xa < 8) = True := eq_true (by omega)
            have px1 : (0 ≤ xa + 1) = True := eq_true (by omega)
            have py1 : (xa + 1 < 8) = True := eq_true (by omega)
            have ne1 : ((xa + 1).toNat = xa.toNat) = False := eq_false (by omega)
            have ne2 : (xa.toNat = (xa + 1).toNat) = False := eq_false (by omega)
            have e1 : (xa + 1).toNat = xa.toNat + 1 := by omega
            rw [← hw2, ← e1] at H
            have E1 := Aside0.mk e1
            clear hA c6 e1
            go_wp2_with (first | ((with_reducible refine gate_callee (f := 17) rfl ?_); refine goesL_ (some 64) rfl rfl Tryd.func17 (by kernel_rfl) rfl #[.string s] rfl (by (try simp only [List.map_toArray, List.map_cons, List.map_nil]); first | done | rfl) ?_; refine (hfour _ (EnvOK.step HE.out HB.out)).mono ?_; rintro e w31 ⟨rfl, hb⟩; refine ⟨_, rfl, ?_⟩; have n0_ := Aside0.mk (blk_below Bgr.out hb); have n1_ := Aside0.mk (blk_below Bgp.out hb); have n2_ := Aside0.mk (below_step HB.out hb); clear Bgr Bgp HB hb; have Bgr := n0_; have Bgp := n1_; have HB := n2_; clear n0_ n1_ n2_; have hcell : w31.cell? ⟨gp, xa.toNat, none⟩ = some (.int .u16 (ps.getD xa.toNat 0)) := YtcpfhnodbgojaaaDoorR.arr_cell Bgp.out _ (by have := HBd.out; have h6 : ¬ 6 < xa := of_decide_eq_false c6b; omega); have hfro := blk_frozen Bgp.out xa.toNat; have hcell2 : w31.cell? ⟨gp, (xa + 1).toNat, none⟩ = some (.int .u16 (ps.getD (xa + 1).toNat 0)) := YtcpfhnodbgojaaaDoorR.arr_cell Bgp.out _ (by have := HBd.out; have h6 : ¬ 6 < xa := of_decide_eq_false c6b; omega); have hfro2 := blk_frozen Bgp.out (xa + 1).toNat))
            go_step3
            rename_i K hK
            refine hK _ _ ?_
            refine ih 4 _ (by decide) rfl g _ _ (Nat.lt_succ_self g) ⟨gp, NB0, Ggp0, ip6_Parse.J_intro s (wrap64 (xa + 2)) xg ((ps.set xa.toNat n).set (xa + 1).toNat m) rfl rfl rfl rfl rfl rfl H ?_ (by (with_reducible repeat (first | refine blk_drewN ?_ _ | refine blk_drew ?_ | refine blk_alloc ?_ _)); exact blk_far (blk_far Bgr.out NB0 _) NB0 _) (by (with_reducible repeat (first | refine blk_drewN ?_ _ | refine blk_drew ?_ | refine blk_alloc ?_ _)); exact blk_put (blk_put Bgp.out xa.toNat _ (YtcpfhnodbgojaaaDoorR.arr_set _ _ _)) (xa + 1).toNat _ (YtcpfhnodbgojaaaDoorR.arr_set _ _ _)) (by repeat (first | exact below_set (below_set HB.out Ggp0) Ggp0 | apply pw_below_drewN | apply below_drew1))⟩
            have := HBd.out
            have h6 : ¬ 6 < xa := of_decide_eq_false c6b
            rw [hw2]
            exact ⟨by omega, by omega, by rw [List.length_set, List.length_set]; exact this.2.2.1, by omega, by omega⟩
    · refine ⟨_, rfl, fun a w1 hJ => ?_⟩
      obtain ⟨gp, NB0, Ggp0, s, xa, xg, ps, V, rfl, HRun, HBd, Bgr, Bgp, HB⟩ := hJ
      have H := HRun.out
      clear HRun
      cases g with
      | zero => exact absurd H (by rw [ip6_Parse.run_z]; exact fun h => by cases h)
      | succ g =>
        rw [ip6_Parse.run_4] at H
        have hA := HBd.out
        obtain ⟨p0, p1, p2, p3, p4, p5, p6, p7, rfl⟩ := YtcpfhnodbgojaaaDoorR.eight hA.2.2.1
        by_cases c1 : xg < 0
        · rw [if_pos c1] at H
          have c1b : decide (xg < 0) = true := decide_eq_true c1
          by_cases c2 : xa = 8
          · rw [if_pos c2] at H
            have c2b : (xa == 8) = true := beq_iff_eq.mpr c2
            obtain rfl := Option.some.inj H
            have hN' := hN.out
            simp only [ip6_Parse.nine, List.getD_cons_zero, List.getD_cons_succ, Prod.mk.injEq] at hN'
            obtain ⟨rfl, rfl, rfl, rfl, rfl, rfl, rfl, rfl, rfl⟩ := hN'
            clear H hN hA c1 c2
            go_wp2_with (first | ((with_reducible refine gate_dst (N := 89) rfl ?_); (with_reducible refine gate_load (t := 24) (p := 4) (N := 89) rfl rfl ?_); refine load_event (t := 24) (p := 4) (g := gp) (T := 24) (cs := #[.int .u16 p0, .int .u16 p1, .int .u16 p2, .int .u16 p3, .int .u16 p4, .int .u16 p5, .int .u16 p6, .int .u16 p7]) ?hg ?ho ?hp ?hb hu24 rfl ?hi ?_; (case ho => rfl); (case hg => rfl); (case hp => rfl); (case hb => exact Bgp.out); (case hi => kernel_rfl)) | ((with_reducible refine gate_store (t := 24) (p := 2) rfl ?_); refine whole_event (t := 24) (p := 2) (v := ?vo2) (u := ?vu2) (g := gr) (cs := #[.int .u16 p0, .int .u16 p1, .int .u16 p2, .int .u16 p3, .int .u16 p4, .int .u16 p5, .int .u16 p6, .int .u16 p7]) ?hg ?ho ?hn ?hp ?hv ?hu Bgr.out ?hs ?ht ?h1 ?_; (case ho => rfl); (case hg => rfl); (case hn => rfl); (case hp => rfl); (case hv => rfl); (case hu => rfl); (case hs => rfl); (case ht => kernel_rfl); (case h1 => rfl); intro w22 hbox hwk; have n0_ := Aside0.mk hbox; have n1_ := Aside0.mk (hwk.below HB.out Ggr.out); clear Bgr HB hbox hwk; have Bgr := n0_; have HB := n1_; clear n0_ n1_))
            try dsimp only [Exit.then, YtcpfhnodbgojaaaDoorJ.jumps]
            refine bodyPost_ret (results_ct rfl _ _ gr 24 #[.int .u16 p0, .int .u16 p1, .int .u16 p2, .int .u16 p3, .int .u16 p4, .int .u16 p5, .int .u16 p6, .int .u16 p7] (0, 0) _ rfl Bgr.out hu24 rfl (by kernel_rfl)) rfl ?_
            exact ⟨rfl, HB.out⟩
          · rw [if_neg c2] at H
            have c2b : (xa == 8) = false := beq_eq_false_iff_ne.mpr c2
            clear hA c1 c2
            go_wp2
            go_step3
            show (1 : Nat) < 5 ∧ ∃ g', g' < g + 1 ∧ ∃ gp : Nat, gr ≠ gp ∧ w.heap.size ≤ gp ∧ ip6_Parse.J w gr gp R g' 1 _ _
            refine ⟨by decide, g, Nat.lt_succ_self g, gp, NB0, Ggp0, ip6_Parse.J_intro (s) (xa) (xg) ([p0, p1, p2, p3, p4, p5, p6, p7]) rfl rfl rfl rfl rfl rfl H ?_ (by (with_reducible repeat (first | refine blk_drewN ?_ _ | refine blk_drew ?_ | refine blk_alloc ?_ _)); exact Bgr.out) (by (with_reducible repeat (first | refine blk_drewN ?_ _ | refine blk_drew ?_ | refine blk_alloc ?_ _)); exact Bgp.out) (by repeat (first | exact HB.out | apply pw_below_drewN | apply below_drew1 | apply below_alloc))⟩
            have := HBd.out
            exact ⟨by omega, by omega, rfl, by omega, by omega⟩
        · rw [if_neg c1] at H
          have c1b : decide (xg < 0) = false := decide_eq_false c1
          obtain ⟨L, hL, H⟩ := Option.bind_eq_some_iff.mp H
          replace hL : (if 0 ≤ xg ∧ xg < xa ∧ xa ≤ 8 then some (YtcpfhnodbgojaaaDoorR.spreadL [p0, p1, p2, p3, p4, p5, p6, p7] xg.toNat xa.toNat) else none) = some L := hL
          by_cases c3 : 0 ≤ xg ∧ xg < xa ∧ xa ≤ 8
          · rw [if_pos c3] at hL
            have hL' := Option.some.inj hL
            have h8 := YtcpfhnodbgojaaaDoorR.spread_len (ps := [p0, p1, p2, p3, p4, p5, p6, p7]) (gap := xg.toNat) (at_ := xa.toNat) rfl (by omega) (by omega)
            obtain ⟨q0, q1, q2, q3, q4, q5, q6, q7, hq⟩ := YtcpfhnodbgojaaaDoorR.eight h8
            rw [hq] at hL'
            subst hL'
            have hsf : ip6_spread.f p0 p1 p2 p3 p4 p5 p6 p7 xg xa = some (q0, q1, q2, q3, q4, q5, q6, q7) := by
              unfold ip6_spread.f ip6_spread.L
              rw [if_pos c3, hq]
              rfl
            have hspr := fun W => ip6_spread.calls p0 p1 p2 p3 p4 p5 p6 p7 xg xa q0 q1 q2 q3 q4 q5 q6 q7 W hsf
            obtain rfl := Option.some.inj H
            have hN' := hN.out
            simp only [ip6_Parse.nine, List.getD_cons_zero, List.getD_cons_succ, Prod.mk.injEq] at hN'
            obtain ⟨rfl, rfl, rfl, rfl, rfl, rfl, rfl, rfl, rfl⟩ := hN'
            clear H hN hA c1 c3 hsf hL hq h8
            go_wp2_with (first | ((with_reducible refine gate_dst (N := 92) rfl ?_); (with_reducible refine gate_load (t := 24) (p := 4) (N := 92) rfl rfl ?_); refine load_event (t := 24) (p := 4) (g := gp) (T := 24) (cs := #[.int .u16 p0, .int .u16 p1, .int .u16 p2, .int .u16 p3, .int .u16 p4, .int .u16 p5, .int .u16 p6, .int .u16 p7]) ?hg ?ho ?hp ?hb hu24 rfl ?hi ?_; (case ho => rfl); (case hg => rfl); (case hp => rfl); (case hb => exact Bgp.out); (case hi => kernel_rfl)) | ((with_reducible refine gate_callee (f := 18) rfl ?_); refine goesL_ (some 95) rfl rfl Tryd.func18 (by kernel_rfl) rfl #[.agg #[.int .u16 p0, .int .u16 p1, .int .u16 p2, .int .u16 p3, .int .u16 p4, .int .u16 p5, .int .u16 p6, .int .u16 p7], .int .i64 xg, .int .i64 xa] rfl (by (try simp only [List.map_toArray, List.map_cons, List.map_nil]); first | done | rfl) ?_; refine (hspr _).mono ?_; rintro e w31 ⟨rfl, hb⟩; refine ⟨_, rfl, ?_⟩; have n0_ := Aside0.mk (blk_below Bgr.out hb); have n2_ := Aside0.mk (below_step HB.out hb); clear Bgr HB hb; have Bgr := n0_; have HB := n2_; clear n0_ n2_) | ((with_reducible refine gate_store (t := 24) (p := 2) rfl ?_); refine whole_event (t := 24) (p := 2) (v := ?vo3) (u := ?vu3) (g := gr) (cs := #[.int .u16 q0, .int .u16 q1, .int .u16 q2, .int .u16 q3, .int .u16 q4, .int .u16 q5, .int .u16 q6, .int .u16 q7]) ?hg ?ho ?hn ?hp ?hv ?hu Bgr.out ?hs ?ht ?h1 ?_; (case ho => rfl); (case hg => rfl); (case hn => rfl); (case hp => rfl); (case hv => rfl); (case hu => rfl); (case hs => rfl); (case ht => kernel_rfl); (case h1 => rfl); intro w22 hbox hwk; have n0_ := Aside0.mk hbox; have n1_ := Aside0.mk (hwk.below HB.out Ggr.out); clear Bgr HB hbox hwk; have Bgr := n0_; have HB := n1_; clear n0_ n1_))
            try dsimp only [Exit.then, YtcpfhnodbgojaaaDoorJ.jumps]
            refine bodyPost_ret (results_ct rfl _ _ gr 24 #[.int .u16 q0, .int .u16 q1, .int .u16 q2, .int .u16 q3, .int .u16 q4, .int .u16 q5, .int .u16 q6, .int .u16 q7] (0, 0) _ rfl Bgr.out hu24 rfl (by kernel_rfl)) rfl ?_
            exact ⟨rfl, HB.out⟩
          · rw [if_neg c3] at hL; cases hL


end Go.Proofs.YtcpfhnodbgojaaaDoor.PF
