-- WRITTEN BY A PROGRAM OF THIS SESSION (wip/tools/xprint.py, over the kit's print.py).
import Derived.Test.YtcpfhnodbgojaaaDoorProg
import Derived.WalkLawsBesides
import Derived.Below
import Derived.Deep.Draws
import Derived.Deep.AppendLies
import Derived.Maps.AppendAt
import Derived.OwnWalk
import Derived.Laws.BytesArg
import Derived.Laws.MakeOwn
import Derived.Laws.OwnMore
import Derived.Deep.OwnRows
import Derived.Tactics
import Derived.Lib.ConvBytes
import Derived.Laws.Slices
import Derived.WalkKit
import Derived.KernelRfl
import Derived.RowKit3
import Derived.Deep.LoopGhost
import Derived.Deep.QuietTactic
import Derived.BigQuiet
import Derived.WideLaws
import Derived.Deep.DeepCutAuto
import Derived.Deep.CutBlock
import Derived.Deep.RegionHeld3
import Derived.Laws.Rows
import Derived.Lib.AppendStr
import Derived.ArgAppend
import Derived.Laws.IdiomCopy
import Derived.OrdersHeld
import Derived.Laws.BitsLemmas
import Derived.RowKit
import Derived.Laws.BitsLemmas
import Derived.Lib.AppendIntMem
import Derived.Lib.ConvBytes
import Derived.Test.YtcpfhnodbgojaaaDoorArrKit
import Derived.Test.YtcpfhnodbgojaaaDoorEnv
import Derived.Test.YtcpfhnodbgojaaaDoorJumps
import Derived.Test.YtcpfhnodbgojaaaDoorLibAid
import Derived.Test.YtcpfhnodbgojaaaDoorShelf
import Derived.WalkMore
import Derived.ChangeKeysEq
import Derived.Test.YtcpfhnodbgojaaaDoorWWords
import Derived.Test.YtcpfhnodbgojaaaDoorWLast
import Derived.Test.YtcpfhnodbgojaaaDoorWTab
import Derived.Test.YtcpfhnodbgojaaaDoorWFour
import Derived.Test.YtcpfhnodbgojaaaDoorWQPut
import Derived.Test.YtcpfhnodbgojaaaDoorWApart
import Derived.Test.YtcpfhnodbgojaaaDoorWArr
import Derived.Test.YtcpfhnodbgojaaaDoorWZeros
import Derived.Test.YtcpfhnodbgojaaaDoorWFoot
import Derived.Test.YtcpfhnodbgojaaaDoorWKept
import Derived.Test.YtcpfhnodbgojaaaDoorWShare
import Derived.Test.YtcpfhnodbgojaaaDoorWN
import Derived.Test.YtcpfhnodbgojaaaDoorWFootNe
import Derived.Test.YtcpfhnodbgojaaaDoorWAt
import Derived.Test.YtcpfhnodbgojaaaDoorWEqStruct
import Derived.Test.YtcpfhnodbgojaaaDoorWRepsOne
import Derived.Test.YtcpfhnodbgojaaaDoorWInv
import Derived.Test.YtcpfhnodbgojaaaDoorWInvWords
import Derived.Test.YtcpfhnodbgojaaaDoorWGuard
import Derived.Test.YtcpfhnodbgojaaaDoorWNEv
import Derived.Test.YtcpfhnodbgojaaaDoorWMore
namespace Go.Proofs.YtcpfhnodbgojaaaDoor.PF
open Go.RowKit Go.Proofs.YtcpfhnodbgojaaaDoorW.PrintWords Go.Proofs.YtcpfhnodbgojaaaDoorW.PrintLast Go.Proofs.YtcpfhnodbgojaaaDoorW.PrintMore Go.Proofs.YtcpfhnodbgojaaaDoorE
attribute [local go_sem] max2_int min2_int max_two min_two max_three min_three max_four min_four   -- for this text's walks alone
set_option linter.unusedVariables false
set_option linter.unusedSimpArgs false



def errW : Option Int → Value
  | none => .nilIface
  | some c => .iface 0 (.int .i64 c)
theorem errW_none : errW none = .nilIface := rfl
theorem errW_some (c : Int) : errW (some c) = .iface 0 (.int .i64 c) := rfl

theorem info3 : (Tryd.prog.info? 3).map (fun i => (i.zero, i.size, i.bytes)) = some (some (.int .i64 0), 1, 8) := by kernel_rfl
theorem info9 : (Tryd.prog.info? 9).map (fun i => (i.zero, i.size, i.bytes)) = some (some (.string ⟨#[]⟩), 1, 16) := by kernel_rfl
-- the values' own types
/-! #### struct type 24 -/
structure S24 where
  f0 : Int
  f1 : Int
  f2 : Int
  f3 : Int
  f4 : Int
  f5 : Int
  f6 : Int
  f7 : Int
theorem eqi_cons {P : Program} {d : Nat} {e : TypeId} {c i : Nat} {is : List Nat} {xs ys : Array Value} {a b : Value} {r s : Bool} {w : World} (ha : (part e xs (i * c)).run P w = .ok a w) (hb : (part e ys (i * c)).run P w = .ok b w) (he : (Op.equalIn d e a b).run P w = .ok r w) (hr : (Op.eqItems d e c xs ys is).run P w = .ok s w) : (Op.eqItems d e c xs ys (i :: is)).run P w = .ok (r && s) w := by
  rw [Op.eqItems]
  simp only [Sem.run_bind, ha, hb, he, Result.andThen_ok]
  cases r
  · simp
  · simpa using hr
theorem eqi_last {P : Program} {d : Nat} {e : TypeId} {c i : Nat} {xs ys : Array Value} {a b : Value} {r : Bool} {w : World} (ha : (part e xs (i * c)).run P w = .ok a w) (hb : (part e ys (i * c)).run P w = .ok b w) (he : (Op.equalIn d e a b).run P w = .ok r w) : (Op.eqItems d e c xs ys [i]).run P w = .ok r w := by
  have := eqi_cons (is := []) (s := true) ha hb he (by simp [Op.eqItems])
  rwa [Bool.and_true] at this
theorem arr_cell {α : Type} (enc : α → Value) (d : α) {w : World} {g : Nat} {t : TypeId} {xs : List α} (h : w.heap[g]? = some (.cells (xs.map enc).toArray t (0, 0))) (i : Int) (h0 : 0 ≤ i) (h1 : i < (xs.length : Int)) : w.cell? ⟨g, i.toNat, none⟩ = some (enc (xs.getD i.toNat d)) := by
  rw [blk_cell h]
  have hl : i.toNat < xs.length := by omega
  simp [hl]
def upd {α : Type} (i : Int) (y : α) : Nat → List α → List α
  | _, [] => []
  | k, x :: xs => (if i = (k : Int) then y else x) :: upd i y (k + 1) xs
theorem upd_eq {α : Type} (i : Int) (y : α) (xs : List α) : ∀ k : Nat, (k : Int) ≤ i → upd i y k xs = xs.set (i.toNat - k) y := by
  induction xs with
  | nil => intro k h; rfl
  | cons x xs ih =>
    intro k h
    unfold upd
    by_cases hk : i = (k : Int)
    · have : i.toNat - k = 0 := by omega
      rw [this, if_pos hk, List.set_cons_zero]
      have id_ : ∀ (xs : List α) (m : Nat), i < (m : Int) → upd i y m xs = xs := by
        intro xs
        induction xs with
        | nil => intro m _; rfl
        | cons z zs ih2 => intro m hm; unfold upd; rw [if_neg (by omega), ih2 (m + 1) (by omega)]
      rw [id_ xs (k + 1) (by omega)]
    · rw [if_neg hk, ih (k + 1) (by omega), show i.toNat - k = (i.toNat - (k + 1)) + 1 by omega, List.set_cons_succ]
theorem arr_set {α : Type} (enc : α → Value) (xs : List α) (i : Int) (h0 : 0 ≤ i) (y : α) : (xs.map enc).toArray.setIfInBounds i.toNat (enc y) = ((upd i y 0 xs).map enc).toArray := by
  rw [upd_eq i y xs 0 h0]
  simp [List.map_set]
theorem gate_load {P : Program} {ops : Array Oper} {rest : List Oper} {o : Oper} {a : Act} {Q : Exit → Act → World → Prop} {W : World} {t : TypeId} {p N : Tmp} (_ho : o.op = .load t (.tmp p)) (_hd : o.dst = some N) (h : wpList P ops Q (o :: rest) a W) : wpList P ops Q (o :: rest) a W := h
theorem load_event {P : Program} {ops : Array Oper} {rest : List Oper} {o : Oper} {a : Act} {Q : Exit → Act → World → Prop} {W : World} (hgd : o.guard = none) {t : TypeId} {p : Tmp} (ho : o.op = .load t (.tmp p)) {g T : Nat} {cs : Array Value} {d : TypeDesc}
    (hp : a.eval (.tmp p) = .pointer (some ⟨g, 0, none⟩)) (hb : W.heap[g]? = some (.cells cs T (0, 0))) (hu : P.underlying t = some d) (hd : (match d with | .struct _ | .array _ _ => true | _ => false) = true) (hi : (P.info? t).map (·.size) = some cs.size)
    (h : wpList P ops Q rest (a.put o.dst (.agg cs)) W) : wpList P ops Q (o :: rest) a W :=
  Kd.event_run hgd (by
    unfold execOp
    simp only [ho, hp, Instr.loadAt, Instr.sureAddr, Sem.run_bind, Sem.run_pure, Result.andThen_ok, run_loadVar_row W g T t cs (0, 0) d hb hu hd hi]) h
/-- A block was written whole; all else is as it was. -/
def WholeK (g : Nat) (W w' : World) : Prop := (w'.os = W.os ∧ w'.tape = W.tape ∧ w'.output = W.output ∧ w'.heap.size = W.heap.size) ∧ ∀ k, k ≠ g → w'.heap[k]? = W.heap[k]?
theorem WholeK.below {g B : Nat} {a W w' : World} (hk : WholeK g W w') (h : Below B a W) (hg : B ≤ g) : Below B a w' :=
  ⟨hk.1.1.trans h.os, hk.1.2.1.trans h.tape, hk.1.2.2.1.trans h.output, by rw [hk.1.2.2.2]; exact h.size, fun i hi => (hk.2 i (by omega)).trans (h.block i hi)⟩
theorem whole_event {P : Program} {ops : Array Oper} {rest : List Oper} {o : Oper} {a : Act} {Q : Exit → Act → World → Prop} {W : World} (hgd : o.guard = none) {t : TypeId} {p : Tmp} {v : Operand} (ho : o.op = .store t (.tmp p) v) (hN : o.dst = none)
    {g T : Nat} {old : Array Value} {cs : Array Value} {u : Value} (hp : a.eval (.tmp p) = .pointer (some ⟨g, 0, none⟩)) (hv : a.eval v = u) (hu : u.cells.toList = cs.toList) (hb : W.heap[g]? = some (.cells old T (0, 0))) (hs : cs.size = old.size)
    (ht : (P.info? t).map (·.size) = some cs.toList.length) (h1 : cs.toList.all Value.oneCell' = true)
    (h : ∀ w', w'.heap[g]? = some (.cells cs T (0, 0)) → WholeK g W w' → wpList P ops Q rest a w') : wpList P ops Q (o :: rest) a W := by
  have hlen : cs.toList.length = cs.size := Array.length_toList
  have hfit : 0 + cs.toList.length ≤ old.size := by rw [hlen, hs]; exact Nat.le_of_eq (Nat.zero_add _)
  have hrun := run_store_run (P := P) t u cs.toList hb hu ht hfit (fun q hq => List.all_eq_true.1 h1 q hq)
  refine wpList_plain hgd fun K hK => ?_
  unfold Oper.wp
  have hex : (execOp a.eval o).run P W = .ok .skip (W.setCells g 0 cs.toList) := by
    unfold execOp
    simp only [ho, hp, hv, Sem.run_bind, hrun, Result.andThen_ok, Sem.run_pure]
  rw [hex]
  show K (a.put o.dst undef) _
  rw [hN]
  have hrow := setCells_row (g := g) (e := T) cs.toList 0 W old hb hfit
  have hsame := setCells_same g cs.toList 0 W
  refine hK _ _ (h _ ?_ ⟨⟨hsame.1, hsame.2.1, hsame.2.2.1, hsame.2.2.2⟩, fun k hk => setCells_far cs.toList 0 k hk⟩)
  obtain ⟨cur', h3, h4, h5⟩ := hrow
  have he : cur' = cs := by
    apply Array.ext'
    rw [h5, List.take_zero, List.nil_append, List.drop_eq_nil_of_le (by rw [Nat.zero_add, hlen, hs, Array.length_toList]; exact Nat.le_refl _), List.append_nil]
  rw [he] at h3
  exact h3

end Go.Proofs.YtcpfhnodbgojaaaDoor.PF
