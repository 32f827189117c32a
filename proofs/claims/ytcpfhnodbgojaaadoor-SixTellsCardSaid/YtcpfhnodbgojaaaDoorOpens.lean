/- What a handed value of a type reads as, kind by kind: from the row's reading of its cells to the kinds of the print. No program. -/
import Derived.Test.YtcpfhnodbgojaaaDoorWWords
import Derived.ChangeArms
import Derived.Deep.Slices
import Derived.SizedLaws
import Derived.OpenShut
namespace Go.Proofs.YtcpfhnodbgojaaaDoorO
open Go.RowKit Go.ChangeShapes Go.WideShapes Go.Proofs.YtcpfhnodbgojaaaDoorW.PrintWords

section
variable {H : Type} (enc : TypeId × Value → H) (P : Program) (w : World) (base : Nat) (spare : Nat → Bool) (held : Bool)
/-- Whatever reads at type t is of kind d, and fits. -/
def KOf (t : TypeId) {α : Type} (d : Kd α) (Φ : α → Prop) : Prop :=
  ∀ fuel cs x, DataW.trod enc P w base spare held fuel t cs = some x → ∃ v, d.K w v cs ∧ Φ v
variable {enc P w base spare held}
theorem KOf.int {t : TypeId} {k : IntKind} (ht : P.underlying t = some (.int k)) : KOf enc P w base spare held t (Kd.int k) (fun n => (Lit.int k n).wf = true) := by
  intro fuel cs x h
  obtain ⟨n, rfl, _, hw⟩ := DataW.trod_int ht h
  exact ⟨n, rfl, hw⟩
theorem KOf.bool {t : TypeId} (ht : P.underlying t = some .bool) : KOf enc P w base spare held t Kd.bool (fun _ => True) := by
  intro fuel cs x h
  obtain ⟨n, rfl, _⟩ := DataW.trod_bool ht h
  exact ⟨n, rfl, trivial⟩
theorem KOf.string {t : TypeId} (ht : P.underlying t = some .string) : KOf enc P w base spare held t Kd.string (fun s => s.size ≤ maxLen) := by
  intro fuel cs x h
  obtain ⟨n, rfl, _, hw⟩ := DataW.trod_string ht h
  exact ⟨n, rfl, hw⟩
theorem list_lt {α : Type} {n : Nat} {p : Nat → α → Prop} (h : ∀ i, i < n → ∃ x, p i x) : ∃ xs : List α, xs.length = n ∧ ∀ i x, xs[i]? = some x → p i x := by
  induction n with
  | zero => exact ⟨[], rfl, fun i x hx => by simp at hx⟩
  | succ n ih =>
    obtain ⟨xs, hl, hx⟩ := ih (fun i hi => h i (by omega))
    obtain ⟨y, hy⟩ := h n (by omega)
    refine ⟨xs ++ [y], by simp [hl], fun i x hi => ?_⟩
    by_cases hlt : i < xs.length
    · rw [List.getElem?_append_left hlt] at hi
      exact hx i x hi
    · rw [List.getElem?_append_right (by omega)] at hi
      have h0 : i - xs.length = 0 := by
        have := (List.getElem?_eq_some_iff.1 hi).1
        simp at this
        omega
      rw [h0] at hi
      simp at hi
      subst hi
      have : i = n := by omega
      subst this
      exact hy
theorem row_of {e : TypeId} {α : Type} {d : Kd α} {Φ : α → Prop} (hs : P.cellsOf e = d.sz) (he : KOf enc P w base spare held e d Φ) {a : Addr} {len n : Nat} (hm : len ≤ maxLen)
    (h : ∀ i, i < len → ∃ x cs', w.cells? base (a.add (i * P.cellsOf e)) (P.cellsOf e) = some cs' ∧ DataW.trod enc P w base spare held n e cs' = some x) :
    ∃ xs : List α, xs.length = len ∧ Kd.C d w (some a) len xs ∧ ∀ x ∈ xs, Φ x := by
  have h1 : ∀ i, i < len → ∃ v : α, Φ v ∧ ∃ c, c.length = d.sz ∧ d.K w v c ∧ ∀ j u, c[j]? = some u → w.cell? (a.add (i * d.sz + j)) = some u := by
    intro i hi
    obtain ⟨x, cs', hc, hx⟩ := h i hi
    obtain ⟨v, hv, hp⟩ := he n cs' x hx
    obtain ⟨_, hl, hcell⟩ := World.cells?_some hc
    refine ⟨v, hp, cs', by rw [hl, hs], hv, fun j u hu => ?_⟩
    have hj : j < P.cellsOf e := by
      have := (List.getElem?_eq_some_iff.1 hu).1
      omega
    have := hcell j hj
    rw [Go.Deep.add_add, hs] at this
    rw [this, hu]
  obtain ⟨xs, hl, hx⟩ := list_lt h1
  refine ⟨xs, hl, ⟨hl, by unfold maxLen at hm; omega, fun _ => ⟨a, rfl, fun j p hp => ?_⟩⟩, fun x hmem => ?_⟩
  · obtain ⟨_, c, h2, h3, h4⟩ := hx j p hp
    exact ⟨c, h2, h3, h4⟩
  · obtain ⟨i, hi⟩ := List.getElem?_of_mem hmem
    exact (hx i x hi).1
theorem KOf.slice {t e : TypeId} {α : Type} {d : Kd α} {Φ : α → Prop} (ht : P.underlying t = some (.slice e)) (hs : P.cellsOf e = d.sz) (he : KOf enc P w base spare held e d Φ) :
    KOf enc P w base spare held t (Kd.slice e d) (fun xs => xs.length ≤ maxLen ∧ ∀ x ∈ xs, Φ x) := by
  intro fuel cs x h
  rcases Go.Deep.open_slice ht h with ⟨rfl, _⟩ | ⟨a, len, cap, m, n, D, Pl, rfl, _, hl, hm, hmm, _, hcell⟩
  · exact ⟨[], ⟨none, 0, rfl, Nat.le_refl _, Kd.C_nil d w⟩, by simp [maxLen], fun x hx => by simp at hx⟩
  · have hle : len ≤ m := by rw [hmm]; split <;> omega
    obtain ⟨xs, hxl, hC, hP⟩ := row_of hs he (a := a) (len := len) (n := n) (by omega) (fun i hi => by
      obtain ⟨cs', h1, h2⟩ := hcell i (by omega)
      exact ⟨_, cs', h1, h2⟩)
    subst hxl
    exact ⟨xs, ⟨some a, cap, rfl, hl, hC⟩, by omega, hP⟩
/-- A struct's fields from place 'off' on. -/
def Segs (enc : TypeId × Value → H) (P : Program) (w : World) (base : Nat) (spare : Nat → Bool) (held : Bool) (fs : List Field) (off total : Nat) {α : Type} (d : Kd α) (Φ : α → Prop) : Prop :=
  ∀ n (cs : List Value), cs.length = total → (∀ f ∈ fs, ∃ x, DataW.trod enc P w base spare held n f.type ((cs.drop f.offset).take (P.cellsOf f.type)) = some x) → ∃ v, d.K w v (cs.drop off) ∧ Φ v
theorem Segs.one {f : Field} {off total : Nat} {α : Type} {d : Kd α} {Φ : α → Prop} (h : KOf enc P w base spare held f.type d Φ) (ho : f.offset = off) (ht : off + P.cellsOf f.type = total) :
    Segs enc P w base spare held [f] off total d Φ := by
  intro n cs hl hf
  obtain ⟨x, hx⟩ := hf f (by simp)
  obtain ⟨v, hv, hp⟩ := h n _ x hx
  rw [ho, List.take_of_length_le (by rw [List.length_drop]; omega)] at hv
  exact ⟨v, hv, hp⟩
theorem Segs.cons {f : Field} {fs : List Field} {off total : Nat} {α β : Type} {d : Kd α} {d2 : Kd β} {Φ : α → Prop} {Φ2 : β → Prop} (h : KOf enc P w base spare held f.type d Φ) (ho : f.offset = off)
    (h2 : Segs enc P w base spare held fs (off + P.cellsOf f.type) total d2 Φ2) :
    Segs enc P w base spare held (f :: fs) off total (Kd.pair d d2) (fun v => Φ v.1 ∧ Φ2 v.2) := by
  intro n cs hl hf
  obtain ⟨x, hx⟩ := hf f (by simp)
  obtain ⟨v, hv, hp⟩ := h n _ x hx
  obtain ⟨v2, hv2, hp2⟩ := h2 n cs hl (fun g hg => hf g (by simp [hg]))
  rw [ho] at hv
  refine ⟨(v, v2), ⟨_, _, ?_, hv, hv2⟩, hp, hp2⟩
  rw [← List.drop_drop, List.take_append_drop]
theorem KOf.struct {t : TypeId} {fs : Array Field} {total : Nat} {α : Type} {d : Kd α} {Φ : α → Prop} (ht : P.underlying t = some (.struct fs)) (hc : P.cellsOf t = total)
    (h : Segs enc P w base spare held fs.toList 0 total d Φ) : KOf enc P w base spare held t d Φ := by
  intro fuel cs x hx
  obtain ⟨xs, n, _, _, hl, hlen, hf⟩ := DataW.trod_struct ht hx
  have := h n cs (by rw [hl, hc]) (fun f hfm => by
    obtain ⟨i, hi⟩ := List.getElem?_of_mem hfm
    have hi' : fs[i]? = some f := by rw [← Array.getElem?_toList]; exact hi
    have := hf i f hi'
    have hlt : i < xs.length := by
      have := (List.getElem?_eq_some_iff.1 hi).1
      simp at this
      omega
    exact ⟨xs[i], by rw [this, List.getElem?_eq_getElem hlt]⟩)
  simpa using this
end
end Go.Proofs.YtcpfhnodbgojaaaDoorO
