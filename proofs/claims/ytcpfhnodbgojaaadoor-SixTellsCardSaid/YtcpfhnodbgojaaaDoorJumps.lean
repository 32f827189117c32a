/- A scope in which the run jumps to any of several labels: what holds at each, and rounds that every pass lowers. -/
import Derived.Scope
import Derived.ScopeJumps
import Derived.Test.YtcpfhnodbgojaaaDoorWMore
namespace Go.Proofs.YtcpfhnodbgojaaaDoorJ
open Go
/-- As Q; by a goto to a label: J of that label. -/
def jumps (J : Nat → Act → World → Prop) (Q : Exit → Act → World → Prop) : Exit → Act → World → Prop
  | .goto l, a, w => J l a w
  | e, a, w => Q e a w
theorem wp_scope_many {P : Program} {a : Act} {w : World} {Q : Exit → Act → World → Prop} {c : Code} (J : Nat → Nat → Act → World → Prop) (L : Nat → Prop)
    (pass : ∀ l, L l → ∃ r, findLabel c l = some r ∧ ∀ g a w, J g l a w → r.wp P (jumps (fun l' a' w' => L l' ∧ ∃ g', g' < g ∧ J g' l' a' w') Q) a w)
    (first : c.wp P (jumps (fun l a w => L l ∧ ∃ g, J g l a w) Q) a w) : (Code.scope c).wp P Q a w := by
  intro b k cs
  have key : ∀ n l a w, L l → J n l a w → ∃ r, gotoIn l (.inScope c :: k) = some (.code r :: .inScope c :: k) ∧ ∃ e a' w', Q e a' w' ∧ Arrives P (lone (b.at a (.code r :: .inScope c :: k)) cs w) b k cs e a' w' := by
    intro n
    induction n using Nat.strongRecOn with
    | _ n ih =>
      intro l a w hL hJ
      obtain ⟨r, hr, hp⟩ := pass l hL
      refine ⟨r, by simp [gotoIn, hr], ?_⟩
      obtain ⟨e, a₁, w₁, hq, harr⟩ := hp n a w hJ b (.inScope c :: k) cs
      cases e with
      | normal => exact ⟨.normal, a₁, w₁, hq, Steps.trans harr (.one step_inScope)⟩
      | exit id => exact ⟨.exit id, a₁, w₁, hq, fun k' hk => harr k' (by simp [exitTo, hk])⟩
      | goto l' =>
        obtain ⟨hL', g', hlt, hJ'⟩ := hq
        obtain ⟨r', hg', e₂, a₂, w₂, hq₂, harr₂⟩ := ih g' hlt l' a₁ w₁ hL' hJ'
        exact ⟨e₂, a₂, w₂, hq₂, .of_steps (harr _ hg') harr₂⟩
      | ret => exact ⟨_, a₁, w₁, hq, harr⟩
      | panic ch => exact ⟨_, a₁, w₁, hq, harr⟩
      | outgrown => exact ⟨_, a₁, w₁, hq, harr⟩
  obtain ⟨e, a₁, w₁, hq, harr⟩ := first b (.inScope c :: k) cs
  cases e with
  | normal => exact ⟨.normal, a₁, w₁, hq, .head step_scope (Steps.trans harr (.one step_inScope))⟩
  | exit id => exact ⟨.exit id, a₁, w₁, hq, fun k' hk => .head step_scope (harr k' (by simp [exitTo, hk]))⟩
  | goto l' =>
    obtain ⟨hL', g, hJ'⟩ := hq
    obtain ⟨r', hg', e₂, a₂, w₂, hq₂, harr₂⟩ := key g l' a₁ w₁ hL' hJ'
    exact ⟨e₂, a₂, w₂, hq₂, .of_steps (.head step_scope (harr _ hg')) harr₂⟩
  | ret => exact ⟨_, a₁, w₁, hq, .of_steps (.one step_scope) harr⟩
  | panic ch => exact ⟨_, a₁, w₁, hq, .of_steps (.one step_scope) harr⟩
  | outgrown => exact ⟨_, a₁, w₁, hq, .of_steps (.one step_scope) harr⟩
theorem jumps_mono {J J' : Nat → Act → World → Prop} {Q : Exit → Act → World → Prop} (h : ∀ l a w, J l a w → J' l a w) : ∀ e a w, jumps J Q e a w → jumps J' Q e a w := by
  intro e a w hj
  cases e with
  | goto l => exact h l a w hj
  | normal => exact hj
  | exit id => exact hj
  | ret => exact hj
  | panic ch => exact hj
  | outgrown => exact hj
theorem wp_weaker {P : Program} {c : Code} {Q Q' : Exit → Act → World → Prop} {a : Act} {w : World} (h : c.wp P Q a w) (hq : ∀ e a w, Q e a w → Q' e a w) : c.wp P Q' a w := by
  intro b k cs
  obtain ⟨e, a', w', h1, h2⟩ := h b k cs
  exact ⟨e, a', w', hq e a' w' h1, h2⟩
theorem skip_seq {P : Program} {c : Code} {Q : Exit → Act → World → Prop} {a : Act} {w : World} (h : c.wp P Q a w) : (Code.skip.seq c).wp P Q a w :=
  wp_seq (wp_skip h)
/-- The same, and the code behind a label may also be come to from above. -/
theorem wp_scope_fall {P : Program} {a : Act} {w : World} {Q : Exit → Act → World → Prop} {c : Code} (J : Nat → Nat → Act → World → Prop) (L : Nat → Prop)
    (pass : ∀ g, (∀ l r, L l → findLabel c l = some (Code.skip.seq r) → ∀ g' a w, g' < g → J g' l a w → r.wp P (jumps (fun l' a' w' => L l' ∧ ∃ g'', g'' < g ∧ J g'' l' a' w') Q) a w) →
      ∀ l, L l → ∃ r, findLabel c l = some (Code.skip.seq r) ∧ ∀ a w, J g l a w → r.wp P (jumps (fun l' a' w' => L l' ∧ ∃ g', g' < g ∧ J g' l' a' w') Q) a w)
    (first : (∀ l r, L l → findLabel c l = some (Code.skip.seq r) → ∀ g a w, J g l a w → r.wp P (jumps (fun l' a' w' => L l' ∧ ∃ g', J g' l' a' w') Q) a w) → c.wp P (jumps (fun l a w => L l ∧ ∃ g, J g l a w) Q) a w) : (Code.scope c).wp P Q a w := by
  have all : ∀ g l, L l → ∃ r, findLabel c l = some (Code.skip.seq r) ∧ ∀ a w, J g l a w → r.wp P (jumps (fun l' a' w' => L l' ∧ ∃ g', g' < g ∧ J g' l' a' w') Q) a w := by
    intro g
    induction g using Nat.strongRecOn with
    | _ g ih =>
      refine pass g (fun l r hl hr g' a w hg hJ => ?_)
      obtain ⟨r', hr', hp⟩ := ih g' hg l hl
      have e := Option.some.inj (hr.symm.trans hr')
      injection e with _ e
      subst e
      exact wp_weaker (hp a w hJ) (jumps_mono (fun l a w ⟨h1, g'', h2, h3⟩ => ⟨h1, g'', by omega, h3⟩))
  refine wp_scope_many J L (fun l hl => ?_) (first (fun l r hl hr g a w hJ => ?_))
  · obtain ⟨r, hr, _⟩ := all 0 l hl
    refine ⟨_, hr, fun g a w hJ => ?_⟩
    obtain ⟨r', hr', hp⟩ := all g l hl
    have e := Option.some.inj (hr.symm.trans hr')
    injection e with _ e
    subst e
    exact skip_seq (hp a w hJ)
  · obtain ⟨r', hr', hp⟩ := all g l hl
    have e := Option.some.inj (hr.symm.trans hr')
    injection e with _ e
    subst e
    exact wp_weaker (hp a w hJ) (jumps_mono (fun l a w ⟨h1, g'', _, h3⟩ => ⟨h1, g'', h3⟩))
end Go.Proofs.YtcpfhnodbgojaaaDoorJ
