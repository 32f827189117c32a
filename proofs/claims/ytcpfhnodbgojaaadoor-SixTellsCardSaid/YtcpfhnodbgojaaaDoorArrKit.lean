/- Slices of an array that lies in a block of its own. -/
import Derived.Test.YtcpfhnodbgojaaaDoorWMore
import Derived.Test.YtcpfhnodbgojaaaDoorProg
import Derived.Laws.Slices
import Derived.Laws.CopyOwn
set_option linter.unusedVariables false
set_option linter.unusedSimpArgs false
namespace Go.Proofs.YtcpfhnodbgojaaaDoorR
open Go.RowKit Go.Proofs.YtcpfhnodbgojaaaDoorW.PrintWords
/-- Eight numbers as cells. -/
def arr (ps : List Int) : Array Value := (ps.map fun x => Value.int .u16 x).toArray
theorem arr_C {w : World} {g t lo n : Nat} {ps : List Int} (h : w.heap[g]? = some (.cells (arr ps) t (0, 0))) (hn : lo + n ≤ ps.length) (hb : ps.length ≤ 9223372036854775807) :
    Kd.C (Kd.int .u16) w (some ⟨g, lo, none⟩) n ((ps.drop lo).take n) := by
  refine ⟨by simp; omega, by omega, fun _ => ⟨_, rfl, fun j p hj => ⟨[.int .u16 p], rfl, rfl, fun i u hu => ?_⟩⟩⟩
  cases i with
  | succ i => simp at hu
  | zero =>
    simp only [List.getElem?_cons_zero, Option.some.injEq] at hu
    subst hu
    have hj2 : j < n := by have := (List.getElem?_eq_some_iff.1 hj).1; simp at this; omega
    have hj3 : ps[lo + j]? = some p := by
      rw [List.getElem?_take_of_lt hj2, List.getElem?_drop] at hj
      exact hj
    have e : (⟨g, lo, none⟩ : Addr).add (j * (Kd.int .u16).sz + 0) = ⟨g, lo + j, none⟩ := by
      show (⟨g, lo, none⟩ : Addr).add (j * 1 + 0) = _
      unfold Addr.add
      split <;> simp_all
    rw [e, blk_cell h]
    unfold arr
    simp [hj3]
theorem arr_C0 {w : World} (A : Option Addr) : Kd.C (Kd.int .u16) w A 0 ([] : List Int) := ⟨rfl, by omega, fun h => absurd h (Nat.lt_irrefl 0)⟩
theorem sl_low (g l : Nat) (hl : l < 8) (W : World) : (Instr.sliceAt 24 (.pointer (some ⟨g, 0, none⟩)) (some (.int .i64 (l : Int))) none none).run Tryd.prog W = .ok (.slice (some ⟨g, l, none⟩) (8 - l) (8 - l)) W := by
  have h8 : Tryd.prog.arrayLen 24 = 8 := by kernel_rfl
  have he : Tryd.prog.elem 24 = 23 := by kernel_rfl
  rw [run_sliceAt_array_l W 24 ⟨g, 0, none⟩ (by rw [h8, he]; exact Tryd.underlying24) .i64 (l : Int) (by omega) (by rw [h8]; omega), h8, he]
  have hz : ((sizeOf 23).run Tryd.prog W) = .ok 1 W := by go_simp
  rw [hz]
  simp only [Result.andThen_ok, slicedAt, Int.toNat_natCast]
  rw [if_neg (by omega)]
  simp [Addr.add]
  omega
theorem sl_low8 (g : Nat) (W : World) : (Instr.sliceAt 24 (.pointer (some ⟨g, 0, none⟩)) (some (.int .i64 8)) none none).run Tryd.prog W = .ok (.slice (some ⟨g, 0, none⟩) 0 0) W := by
  have h8 : Tryd.prog.arrayLen 24 = 8 := by kernel_rfl
  have he : Tryd.prog.elem 24 = 23 := by kernel_rfl
  rw [run_sliceAt_array_l W 24 ⟨g, 0, none⟩ (by rw [h8, he]; exact Tryd.underlying24) .i64 8 (by omega) (by rw [h8]; omega), h8, he]
  have hz : ((sizeOf 23).run Tryd.prog W) = .ok 1 W := by go_simp
  rw [hz]
  rfl
theorem sl_high (g h : Nat) (hh : h ≤ 8) (W : World) : (Instr.sliceAt 24 (.pointer (some ⟨g, 0, none⟩)) none (some (.int .i64 (h : Int))) none).run Tryd.prog W = .ok (.slice (some ⟨g, 0, none⟩) h 8) W := by
  have h8 : Tryd.prog.arrayLen 24 = 8 := by kernel_rfl
  have he : Tryd.prog.elem 24 = 23 := by kernel_rfl
  rw [run_sliceAt_array_h W 24 ⟨g, 0, none⟩ (by rw [h8, he]; exact Tryd.underlying24) .i64 (h : Int) (by omega) (by rw [h8]; omega), h8, he]
  have hz : ((sizeOf 23).run Tryd.prog W) = .ok 1 W := by go_simp
  rw [hz]
  simp only [Result.andThen_ok, slicedAt, Int.toNat_natCast]
  simp [Addr.add]
theorem sl_all (g : Nat) (W : World) : (Instr.sliceAt 24 (.pointer (some ⟨g, 0, none⟩)) none none none).run Tryd.prog W = .ok (.slice (some ⟨g, 0, none⟩) 8 8) W := by
  have h8 : Tryd.prog.arrayLen 24 = 8 := by kernel_rfl
  have he : Tryd.prog.elem 24 = 23 := by kernel_rfl
  rw [run_sliceAt_array_all W 24 ⟨g, 0, none⟩ (by rw [h8, he]; exact Tryd.underlying24), h8, he]
  have hz : ((sizeOf 23).run Tryd.prog W) = .ok 1 W := by go_simp
  rw [hz]
  rfl
theorem sl_both (g l h : Nat) (hl : l ≤ h) (hl8 : l < 8) (hh : h ≤ 8) (W : World) : (Instr.sliceAt 24 (.pointer (some ⟨g, 0, none⟩)) (some (.int .i64 (l : Int))) (some (.int .i64 (h : Int))) none).run Tryd.prog W = .ok (.slice (some ⟨g, l, none⟩) (h - l) (8 - l)) W := by
  have h8 : Tryd.prog.arrayLen 24 = 8 := by kernel_rfl
  have he : Tryd.prog.elem 24 = 23 := by kernel_rfl
  rw [run_sliceAt_array_lh W 24 ⟨g, 0, none⟩ (by rw [h8, he]; exact Tryd.underlying24) .i64 .i64 (l : Int) (h : Int) (by omega) (by omega) (by rw [h8]; omega), h8, he]
  have hz : ((sizeOf 23).run Tryd.prog W) = .ok 1 W := by go_simp
  rw [hz]
  simp only [Result.andThen_ok, slicedAt, Int.toNat_natCast]
  rw [if_neg (by omega)]
  simp [Addr.add]
  omega
theorem sl_both8 (g : Nat) (W : World) : (Instr.sliceAt 24 (.pointer (some ⟨g, 0, none⟩)) (some (.int .i64 ((7 + 1 : Nat) : Int))) (some (.int .i64 ((8 : Nat) : Int))) none).run Tryd.prog W = .ok (.slice (some ⟨g, 0, none⟩) 0 0) W := by
  have h8 : Tryd.prog.arrayLen 24 = 8 := by kernel_rfl
  have he : Tryd.prog.elem 24 = 23 := by kernel_rfl
  rw [run_sliceAt_array_lh W 24 ⟨g, 0, none⟩ (by rw [h8, he]; exact Tryd.underlying24) .i64 .i64 _ _ (by omega) (by omega) (by rw [h8]; omega), h8, he]
  have hz : ((sizeOf 23).run Tryd.prog W) = .ok 1 W := by go_simp
  rw [hz]
  rfl
theorem arr_cell {w : World} {g t : Nat} {ps : List Int} (h : w.heap[g]? = some (.cells (arr ps) t (0, 0))) (i : Nat) (hi : i < ps.length) : w.cell? ⟨g, i, none⟩ = some (.int .u16 (ps.getD i 0)) := by
  rw [blk_cell h]
  unfold arr
  simp [hi, List.getD_eq_getElem?_getD]
theorem arr_set (ps : List Int) (i : Nat) (x : Int) : (arr ps).setIfInBounds i (.int .u16 x) = arr (ps.set i x) := by
  unfold arr
  apply Array.ext'
  simp [List.map_set]
/-- copy, as a step of a region that draws: the block that is written, all others. -/
theorem step_copy {P : Program} {ops : Array Oper} {o : Oper} {a : Act} {w : World} {K : Act → World → Prop} {Q : Exit → Act → World → Prop} {E : Prop} (hgd : o.guard = none) (d s : Operand) (dT sT : TypeId)
    (ho : o.op = .call { callee := .builtin .copy, args := #[d, s], argTypes := #[dT, sT] }) (elem : TypeId) (hu : P.underlying dT = some (.slice elem)) (hsz : (P.info? elem).map (·.size) = some 1)
    (dp sp : Option Addr) (dLen dCap sLen sCap : Nat) (hd : a.eval d = .slice dp dLen dCap) (hs : a.eval s = .slice sp sLen sCap)
    (g off : Nat) (cur : List Value) (t : TypeId) (hg : w.heap[g]? = some (.cells cur.toArray t (0, 0))) (cs : List Value) (hn : cs.length = Nat.min sLen dLen)
    (hpos : 0 < cs.length → dp = some ⟨g, off, none⟩ ∧ ∃ ad, sp = some ad ∧ ∀ j v, cs[j]? = some v → w.cell? (ad.add j) = some v)
    (hfit : off + cs.length ≤ cur.length) (h1 : ∀ v ∈ cs, v.oneCell' = true)
    (h : ∀ w', w'.heap[g]? = some (.cells (cur.take off ++ cs ++ cur.drop (off + cs.length)).toArray t (0, 0)) → (∀ k, k ≠ g → w'.heap[k]? = w.heap[k]?) → (∀ B w0, Below B w0 w → B ≤ g → Below B w0 w') → K (a.put o.dst (goInt cs.length)) w') :
    if Region.wanted o (yielded ops a.tmps) = true then Oper.wp P o a w K Q else E := by
  have hw : Region.wanted o (yielded ops a.tmps) = true := by simp [Region.wanted, hgd]
  rw [if_pos hw]
  by_cases h0 : cs.length = 0
  · obtain rfl : cs = [] := List.eq_nil_of_length_eq_zero h0
    have hrun := run_copy_none (P := P) w dT sT o.type elem dp sp dLen dCap sLen sCap hu hsz (by simpa using hn.symm)
    unfold Oper.wp
    simp [execOp, ho, resolve, invoke, builtin, hd, hs, hrun, Result.andThen]
    exact h w (by simpa using hg) (fun _ _ => rfl) (fun _ _ hb _ => hb)
  · obtain ⟨rfl, ad, rfl, hsrc⟩ := hpos (by omega)
    have hrun := run_copy_row (P := P) w dT sT o.type elem g off dLen dCap ad sLen sCap cur.toArray t cs hu hsz hg hn hsrc (by simpa using hfit) h1
    unfold Oper.wp
    simp [execOp, ho, resolve, invoke, builtin, hd, hs, hrun, Result.andThen]
    exact h _ (by simpa using setRow_heap w g _ _ t _ hg) (fun k hk => setRow_other w g k _ hk) (fun B w0 hb hBg => Go.below_setRow hb hBg _)
theorem arr_src {w : World} {g t lo n : Nat} {ps : List Int} (h : w.heap[g]? = some (.cells (arr ps) t (0, 0))) : ∀ j v, (((ps.drop lo).take n).map fun x => Value.int .u16 x)[j]? = some v → w.cell? ((⟨g, lo, none⟩ : Addr).add j) = some v := by
  intro j v hv
  rw [List.getElem?_map] at hv
  obtain ⟨p, hp, rfl⟩ := Option.map_eq_some_iff.1 hv
  have hj : j < ((ps.drop lo).take n).length := (List.getElem?_eq_some_iff.1 hp).1
  have hj2 : j < n := by simp at hj; omega
  have hj3 : ps[lo + j]? = some p := by
    rw [List.getElem?_take_of_lt hj2, List.getElem?_drop] at hp
    exact hp
  have e : (⟨g, lo, none⟩ : Addr).add j = ⟨g, lo + j, none⟩ := by
    unfold Addr.add
    split <;> simp_all
  rw [e, blk_cell h]
  unfold arr
  simp [hj3]
theorem eight {L : List Int} (h : L.length = 8) : ∃ a b c d e f g i, L = [a, b, c, d, e, f, g, i] := by
  match L, h with
  | [a, b, c, d, e, f, g, i], _ => exact ⟨a, b, c, d, e, f, g, i, rfl⟩
/-- What spread makes. -/
def spreadL (ps : List Int) (gap at_ : Nat) : List Int := (ps.take gap ++ List.replicate (8 - gap) 0).take (8 - (at_ - gap - 1)) ++ (ps.drop (gap + 1)).take (at_ - gap - 1)
theorem spread_len {ps : List Int} {gap at_ : Nat} (h8 : ps.length = 8) (h1 : gap < at_) (h2 : at_ ≤ 8) : (spreadL ps gap at_).length = 8 := by
  unfold spreadL
  simp
  omega
end Go.Proofs.YtcpfhnodbgojaaaDoorR
