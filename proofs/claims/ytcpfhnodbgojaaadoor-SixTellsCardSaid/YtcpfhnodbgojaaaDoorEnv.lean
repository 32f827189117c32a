/- What every world of a call knows of the library's own variables, carried from world to world; and the wrap of a row that hands its walk that knowledge. -/
import Derived.Test.YtcpfhnodbgojaaaDoorWMore
import Derived.Test.YtcpfhnodbgojaaaDoorProg
import Derived.ProofKit
import Derived.HandedShaped
import Derived.SizedLaws
import Derived.LaidMore
import Derived.Lib.LaidTab
import Derived.Shelf.Strconv.Itoa3
import Derived.Stop.LaidErr
import Derived.LaidHandle
import Derived.MakeChecks
import Derived.Shelf.Vars
import Derived.OpenShut
import Derived.WalkSmall
import Derived.WalkSpells
namespace Go.Proofs.YtcpfhnodbgojaaaDoorE
open Go.RowKit Go.ChangeShapes Go.WideShapes Go.ChangeAt Go.Proofs.YtcpfhnodbgojaaaDoorW.PrintWords
/-- De Bruijn's table for 64 bits. -/
def bruijnTab : List Int := [0,1,56,2,57,49,28,3,61,58,42,50,38,29,17,4,62,47,59,36,45,43,51,22,53,39,33,30,24,18,12,5,63,55,48,27,60,41,37,16,46,35,44,21,52,32,23,11,54,26,40,15,34,20,31,10,25,14,19,9,13,8,7,6]
/-- The library's own numbers and tables stand where they stand. -/
structure Base (W : World) : Prop where
  any : True
  pow10 : Lib.TabIs Tryd.prog W "internal/strconv.uint64pow10" .u64 Lib.pow10Tab
  bruijn : Lib.TabIs Tryd.prog W "math/bits.deBruijn64tab" .u8 bruijnTab
  maxLen : ∃ m, W.cell? ⟨0, 0, none⟩ = some (.int .i64 m)
/-- .. in this world, too: it lies behind one in which they do. -/
def EnvOK (w : World) : Prop := ∃ W, Base W ∧ Below W.heap.size W w
theorem EnvOK.base {W : World} (h : Base W) : EnvOK W := ⟨W, h, Below.refl _ _⟩
theorem EnvOK.step {w w' : World} (h : EnvOK w) (hb : Below w.heap.size w w') : EnvOK w' := by
  obtain ⟨W, hW, h1⟩ := h
  exact ⟨W, hW, below_then h1 h1.size hb⟩
theorem EnvOK.drawn {w w' : World} (h : EnvOK w) (hd : Drawn0 w w') : EnvOK w' := EnvOK.step h hd.below
theorem EnvOK.pow10 {w : World} (h : EnvOK w) : Lib.TabIs Tryd.prog w "internal/strconv.uint64pow10" .u64 Lib.pow10Tab := by
  obtain ⟨W, hW, h1⟩ := h
  have hg : Tryd.prog.globalNamed "internal/strconv.uint64pow10" = some 1 := by kernel_rfl
  exact var?_below h1 hg (World.block_lt_of_cell? W _ (hW.pow10.cell hg 0 (by decide))) hW.pow10
theorem EnvOK.bruijn {w : World} (h : EnvOK w) : Lib.TabIs Tryd.prog w "math/bits.deBruijn64tab" .u8 bruijnTab := by
  obtain ⟨W, hW, h1⟩ := h
  have hg : Tryd.prog.globalNamed "math/bits.deBruijn64tab" = some 3 := by kernel_rfl
  exact var?_below h1 hg (World.block_lt_of_cell? W _ (hW.bruijn.cell hg 0 (by decide))) hW.bruijn
theorem EnvOK.maxLen {w : World} (h : EnvOK w) : ∃ m, w.cell? ⟨0, 0, none⟩ = some (.int .i64 m) := by
  obtain ⟨W, hW, h1⟩ := h
  obtain ⟨m, hm⟩ := hW.maxLen
  exact ⟨m, (h1.cell (p := ⟨0, 0, none⟩) (World.block_lt_of_cell? W _ hm)).trans hm⟩
section
variable {H : Type} {enc : TypeId × Value → H}
/-- The wrap: the sizes, what is laid, the world's shape. -/
theorem returns_all {a : Assume} {C : Checked} {os : Os} {f : FuncId} {fn : Func} {s : ChangeSpec} {conds : List PathCond} {apart fresh handsOn again : Bool} {X : World → Array Value → Prop}
    (hX : ∀ (w w' : World) (args : Array Value), w.heap = w'.heap → X w args → X w' args)
    (own : ownKnob C.prog.godebug = none) (started : os.Started) (noInit : C.prog.inits.idxOf? f = none) (hfn : C.prog.funcs[f]? = some fn)
    (witness : ∃ (w : World) (tape : Tape) (i : Input), w.os = os ∧ (w.forCall tape i).Shaped C.prog ∧ i.vars = [] ∧ Input.okWide C.prog (w.forCall tape i) .any w.heap.size f i ∧
      ((s.pre enc C.prog fn conds apart (w.forCall tape i).memory i.args ∧ X (w.forCall tape i).memory i.args) ∧ sizedMet enc C.prog fn (OpenSpec.ofChange s) apart (w.forCall tape i).memory i.args) ∧ a.holds C.prog (lone (Frame.enter C.prog f i.args .normal) [] (w.forCall tape i)))
    (contract : ∀ (W : World) (base : Nat) (args : Array Value) (ds gs : List (DataW H)) (before : List MemPlace),
      (∀ (j : Nat) t v, fn.params[j]? = some t → args[j]? = some v → Value.okWide C.prog W .any base t v) →
      DataW.Whole enc C.prog fn.params.toList s.vars apart W args.toList ds gs before →
      conds.all (PathCond.test C.prog ⟨fn.params.toList, ds, s.plain.varTypes C.prog, gs⟩) = true →
      (DataW.weightsEach C.prog (fn.params.toList ++ s.plain.varTypes C.prog) (ds ++ gs)).all (· ≤ reachBytes) = true → X W args → W.ShapedOpen C.prog →
      a.holds C.prog (lone (Frame.enter C.prog f args .normal) [] W) →
      Calls C.prog f args W fun e W' => ∃ v, e = .returned v ∧ s.post enc C.prog fn apart fresh handsOn again W args v W') :
    ReturnsInHanded a C os f .any (fun w args => (s.pre enc C.prog fn conds apart w args ∧ X w args) ∧ sizedMet enc C.prog fn (OpenSpec.ofChange s) apart w args) (s.post enc C.prog fn apart fresh handsOn again) := by
  refine returnsInHanded_of_calls own started noInit witness ?_
  intro w tape i _ hsh _ hok hpre hholds
  obtain ⟨_, _, _, fn', hfn', _, _, _, _, hval⟩ := hok
  have e : fn' = fn := Option.some.inj (hfn'.symm.trans hfn)
  subst e
  obtain ⟨⟨⟨ds, gs, before, hw, hc⟩, hx⟩, hz⟩ := hpre
  have hw' := DataW.Whole.of_heap (w' := w.forCall tape i) (by rfl) hw
  refine (contract (w.forCall tape i) w.heap.size i.args ds gs before hval hw' hc (hz.weights hw) (hX _ _ _ (by rfl) hx) hsh hholds).mono fun e W' ⟨v, he, hp⟩ => ?_
  subst he
  exact ChangeSpec.post_blind hp
end
theorem maxLen_of {W : World} (h : W.ShapedOpen Tryd.prog) : ∃ m, W.cell? ⟨0, 0, none⟩ = some (.int .i64 m) :=
  cell_of_shapedOpen_int (t := 3) (zero := #[.int .i64 0]) h (of_decide_eq_true (by kernel_rfl)) (by kernel_rfl) rfl (by kernel_rfl) (by kernel_rfl) Tryd.underlying3
end Go.Proofs.YtcpfhnodbgojaaaDoorE
