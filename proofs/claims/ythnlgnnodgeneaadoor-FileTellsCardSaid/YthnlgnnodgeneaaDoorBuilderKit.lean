/- A strings.Builder that a function has made: its contracts (laid out of ToLower's structure), and what stands beside it. -/
import Derived.Test.YthnlgnnodgeneaaDoorWMore
import Derived.Test.YthnlgnnodgeneaaDoorShelf
import Derived.Lib.OthersKept
set_option linter.unusedVariables false
set_option linter.unusedSimpArgs false
namespace Go.Proofs.YthnlgnnodgeneaaDoorB
open Go.RowKit Go.Proofs.YthnlgnnodgeneaaDoorW.PrintWords
/-- The bytes of a builder in block b of a world. -/
def Bld (B b : Nat) (l : List UInt8) (w : World) : Prop := Lib.IsBuilderF 44 5 B b (Lib.byteCells l) w
theorem lays166 : Go.Proofs.Lays.n166 Tryd.prog Tryd.lays159_ren := { Tryd.lays159 with }
theorem write (B b : Nat) (l : List UInt8) (s : ByteArray) (w : World) (h : Bld B b l w) (hlen : l.length + s.size ≤ 140737488355328) (hBw : B ≤ w.heap.size) :
    Calls Tryd.prog 14 #[.pointer (some ⟨b, 0, none⟩), .string s] w fun e w' => e = .returned (.tuple #[.int .i64 s.size, .nilIface]) ∧ Bld B b (l ++ s.data.toList) w' ∧ Below B w w' ∧ Lib.OthersKept 5 (some b) w w' := by
  refine (Any.Builder_WriteString_k lays166 Tryd.Builder_Extra_159 B b (Lib.byteCells l) s w h (by rw [Lib.byteCells_length]; exact hlen) hBw).mono ?_
  rintro e w' ⟨he, h1, h2, h3⟩
  refine ⟨he, .inr ?_, h2, h3⟩
  have e1 : Lib.byteCells (l ++ s.data.toList) = Lib.byteCells l ++ Lib.strCells s := by unfold Lib.byteCells Lib.strCells; rw [List.map_append]
  rw [e1]
  exact h1
theorem said (B b : Nat) (l : List UInt8) (w : World) (h : Bld B b l w) (hBw : B ≤ w.heap.size) :
    Calls Tryd.prog 16 #[.pointer (some ⟨b, 0, none⟩)] w fun e w' => e = .returned (.string ⟨l.toArray⟩) ∧ Bld B b l w' ∧ Below B w w' ∧ Lib.OthersKept 5 (some b) w w' := Tryd.Builder_String_any_k B b l w h hBw
theorem fresh {B b : Nat} {w : World} (hB : B ≤ b) (h : w.heap[b]? = some (.cells #[.pointer none, .slice none 0 0] 44 (0, 0))) : Bld B b [] w :=
  .inl ⟨hB, .slice none 0 0, h, ⟨by simp [Lib.byteCells], .inl ⟨rfl, rfl⟩⟩, by simp [Value.ownBlock]⟩
theorem blk {B b : Nat} {l : List UInt8} {w : World} (h : Bld B b l w) : ∃ cs, w.heap[b]? = some (.cells cs 44 (0, 0)) := by
  rcases h with ⟨_, v, hb, _⟩ | ⟨_, v, hb, _⟩ <;> exact ⟨_, hb⟩
theorem ownsF_below {B e : Nat} {v : Value} {n : Nat} {xs : List Value} {w w1 : World} (h : w.ownsRowF B e 1 v n xs) (hb : Below w.heap.size w w1) : w1.ownsRowF B e 1 v n xs := by
  obtain ⟨h1, h2⟩ := h
  refine ⟨h1, ?_⟩
  rcases h2 with h2 | ⟨g, cap, cur, fz, hv, hbg, hg, rest⟩
  · exact .inl h2
  · exact .inr ⟨g, cap, cur, fz, hv, hbg, (hb.block g (blk_lt hg)).trans hg, rest⟩
theorem below {B b : Nat} {l : List UInt8} {w w1 : World} (h : Bld B b l w) (hb : Below w.heap.size w w1) : Bld B b l w1 := by
  rcases h with ⟨h1, v, h2, h3, h4⟩ | ⟨h1, v, h2, h3, h4⟩
  · exact .inl ⟨h1, v, (hb.block b (blk_lt h2)).trans h2, ownsF_below h3 hb, h4⟩
  · exact .inr ⟨h1, v, (hb.block b (blk_lt h2)).trans h2, ownsF_below h3 hb, h4⟩
theorem drewN {B b : Nat} {l : List UInt8} {w : World} (h : Bld B b l w) (n : Nat) : Bld B b l (w.drewN n) := below h (pw_below_drewN (Below.refl _ _) n)
theorem drew {B b : Nat} {l : List UInt8} {w : World} (h : Bld B b l w) : Bld B b l w.drew := below h (below_drew (Below.refl _ _))
theorem alloc {B b : Nat} {l : List UInt8} {w : World} (h : Bld B b l w) (o : Obj) : Bld B b l (w.alloc o) := below h (below_alloc (Below.refl _ _) o)
/-- What a builder's writing keeps: rows and blocks of other types. -/
theorem R_others {α : Type} {d : Kd α} {e base : Nat} {ok : Nat → Prop} {v : Value} {xs : List α} {w w1 : World} {B g : Nat} {l : List UInt8} (h : d.R e w base ok v xs) (hB : Bld B g l w) (hO : Lib.OthersKept 5 (some g) w w1)
    (h1 : ∀ q, q ∈ e :: d.E → q ≠ 5 ∧ q ≠ 44) : d.R e w1 base ok v xs := by
  obtain ⟨cs, hg⟩ := blk hB
  refine Kd.R_mono (Kd.R_move (Kd.R_bound h) (fun k hk => ?_)) (fun _ hk => hk.1)
  obtain ⟨_, _, _, q, hq, cells, hc⟩ := hk
  have hne := h1 q hq
  rw [hc]
  refine hO k _ hc ?_ ?_
  · intro he
    injection he with he
    subst he
    rw [hc] at hg
    injection hg with hg
    injection hg with _ hg
    exact hne.2 hg
  · intro c fz he
    injection he with _ he
    exact hne.1 he
theorem Q_others {α : Type} {d : Kd α} {e base : Nat} {ok : Nat → Prop} {v : Value} {xs : List α} {w w1 : World} {B g : Nat} {l : List UInt8} (h : d.Q e w base ok v xs) (hB : Bld B g l w) (hO : Lib.OthersKept 5 (some g) w w1)
    (h1 : ∀ q, q ∈ e :: d.E → q ≠ 5 ∧ q ≠ 44) : d.Q e w1 base ok v xs := by
  obtain ⟨cs, hg⟩ := blk hB
  refine Kd.Q_mono (Kd.Q_move (Kd.Q_bound h) (fun k hk => ?_)) (fun _ hk => hk.1)
  obtain ⟨_, _, _, q, hq, cells, hc⟩ := hk
  have hne := h1 q hq
  rw [hc]
  refine hO k _ hc ?_ ?_
  · intro he
    injection he with he
    subst he
    rw [hc] at hg
    injection hg with hg
    injection hg with _ hg
    exact hne.2 hg
  · intro c fz he
    injection he with _ he
    exact hne.1 he
theorem blk_others {w w1 : World} {B g k t : Nat} {l : List UInt8} {cs : Array Value} (h : w.heap[k]? = some (.cells cs t (0, 0))) (hB : Bld B g l w) (hO : Lib.OthersKept 5 (some g) w w1) (h1 : t ≠ 5 ∧ t ≠ 44) :
    w1.heap[k]? = some (.cells cs t (0, 0)) := by
  obtain ⟨cs', hg⟩ := blk hB
  refine hO k _ h ?_ ?_
  · intro he
    injection he with he
    subst he
    rw [h] at hg
    injection hg with hg
    injection hg with _ hg
    exact h1.2 hg
  · intro c fz he
    injection he with _ he
    exact h1.1 he
end Go.Proofs.YthnlgnnodgeneaaDoorB
