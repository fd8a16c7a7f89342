import Derived.Test.YthaalghnpfpjmaaDoorRules3
import Derived.ScopeJumps
set_option linter.all false
/-! Own words: a scope with labels and gotos. -/
namespace Go.Sv
open Go.RowKit
/-- As Q; by a goto to label l: K l. -/
def Exit.to (K : Nat → Act → World → Prop) (Q : Exit → Act → World → Prop) : Exit → Act → World → Prop
  | .goto l, a, w => K l a w
  | e, a, w => Q e a w
section
variable {P : Program} {a : Act} {w : World} {Q : Exit → Act → World → Prop}
theorem scopeR {c : Code} {σ : Type} (J : Nat → σ → Act → World → Prop) (μ : σ → Nat)
    (first : ∀ K : Nat → Act → World → Prop, (∀ l s a w, J l s a w → K l a w) → c.wp P (Exit.to K Q) a w)
    (pass : ∀ l s a w, J l s a w → ∃ rest, findLabel c l = some rest ∧ ∀ K : Nat → Act → World → Prop, (∀ l' s' a' w', J l' s' a' w' → μ s' < μ s → K l' a' w') → rest.wp P (Exit.to K Q) a w) : (Code.scope c).wp P Q a w := by
  intro b k cs
  have key : ∀ n l s a w, μ s = n → J l s a w → ∃ rest, findLabel c l = some rest ∧ ∃ e a' w', Q e a' w' ∧ Arrives P (lone (b.at a (.code rest :: .inScope c :: k)) cs w) b k cs e a' w' := by
    intro n
    induction n using Nat.strongRecOn with
    | _ n ih =>
      intro l s a w hn hJ
      obtain ⟨rest, hf, hp⟩ := pass l s a w hJ
      refine ⟨rest, hf, ?_⟩
      obtain ⟨e, a₁, w₁, hq, harr⟩ := hp (fun l' a' w' => ∃ s', J l' s' a' w' ∧ μ s' < μ s) (fun l' s' a' w' h1 h2 => ⟨s', h1, h2⟩) b (.inScope c :: k) cs
      cases e with
      | normal => exact ⟨.normal, a₁, w₁, hq, Steps.trans harr (.one step_inScope)⟩
      | exit id => exact ⟨.exit id, a₁, w₁, hq, fun k' hk => harr k' (by simp [exitTo, hk])⟩
      | goto l' =>
        obtain ⟨s', hJ', hlt⟩ := hq
        obtain ⟨rest', hf', e₂, a₂, w₂, hq₂, harr₂⟩ := ih _ (by omega) l' s' a₁ w₁ rfl hJ'
        have hg : gotoIn l' (.inScope c :: k) = some (.code rest' :: .inScope c :: k) := by simp [gotoIn, hf']
        exact ⟨e₂, a₂, w₂, hq₂, .of_steps (harr _ hg) harr₂⟩
      | ret => exact ⟨_, a₁, w₁, hq, harr⟩
      | panic ch => exact ⟨_, a₁, w₁, hq, harr⟩
      | outgrown => exact ⟨_, a₁, w₁, hq, harr⟩
  obtain ⟨e, a₁, w₁, hq, harr⟩ := first (fun l a w => ∃ s, J l s a w) (fun l s a w h => ⟨s, h⟩) b (.inScope c :: k) cs
  cases e with
  | normal => exact ⟨.normal, a₁, w₁, hq, .head step_scope (Steps.trans harr (.one step_inScope))⟩
  | exit id => exact ⟨.exit id, a₁, w₁, hq, fun k' hk => .head step_scope (harr k' (by simp [exitTo, hk]))⟩
  | goto l' =>
    obtain ⟨s', hJ'⟩ := hq
    obtain ⟨rest', hf', e₂, a₂, w₂, hq₂, harr₂⟩ := key _ l' s' a₁ w₁ rfl hJ'
    have hg : gotoIn l' (.inScope c :: k) = some (.code rest' :: .inScope c :: k) := by simp [gotoIn, hf']
    exact ⟨e₂, a₂, w₂, hq₂, .of_steps (.head step_scope (harr _ hg)) harr₂⟩
  | ret => exact ⟨_, a₁, w₁, hq, .of_steps (.one step_scope) harr⟩
  | panic ch => exact ⟨_, a₁, w₁, hq, .of_steps (.one step_scope) harr⟩
  | outgrown => exact ⟨_, a₁, w₁, hq, .of_steps (.one step_scope) harr⟩
/-- A scope that begins with x and then label l0. -/
theorem scopeL {x rest : Code} {l0 : Nat} {σ : Type} (J : Nat → σ → Act → World → Prop) (μ : σ → Nat) (hx : ∀ l, findLabel x l = none)
    (first : ∀ (KG : Nat → Act → World → Prop) (K : Act → World → Prop), (∀ s a w, J l0 s a w → K a w) → x.wp P (Exit.then K (Exit.to KG Q)) a w)
    (pass0 : ∀ s a w, J l0 s a w → ∀ K : Nat → Act → World → Prop, (∀ l' s' a' w', J l' s' a' w' → μ s' < μ s → K l' a' w') → rest.wp P (Exit.to K Q) a w)
    (pass : ∀ l s a w, l ≠ l0 → J l s a w → ∃ rest', findLabel rest l = some rest' ∧ ∀ K : Nat → Act → World → Prop, (∀ l' s' a' w', J l' s' a' w' → μ s' < μ s → K l' a' w') → rest'.wp P (Exit.to K Q) a w) :
    (Code.scope (.seq x (.seq (.label l0) rest))).wp P Q a w := by
  refine scopeR J μ (fun K hK => wp_seq (first K _ fun s a w h => wp_seq (wp_label (pass0 s a w h K fun l' s' a' w' h1 _ => hK l' s' a' w' h1)))) fun l s a w h => ?_
  by_cases hl : l = l0
  · subst hl
    refine ⟨.seq .skip rest, by simp [findLabel, hx], fun K hK => wp_seq (wp_skip (pass0 s a w h K hK))⟩
  · obtain ⟨rest', hf, hp⟩ := pass l s a w hl h
    exact ⟨rest', by simp [findLabel, hx, hf, Ne.symm hl], hp⟩
theorem gotoTo {K : Nat → Act → World → Prop} {l : Nat} (h : K l a w) : Exit.to K Q (.goto l) a w := h
theorem gotoBlock {id l : Nat} (h : Q (.goto l) a w) : Exit.inBlock id Q (.goto l) a w := by simpa [Exit.inBlock] using h
theorem retTo {K : Nat → Act → World → Prop} (h : Q .ret a w) : Exit.to K Q .ret a w := h
theorem normTo {K : Nat → Act → World → Prop} (h : Q .normal a w) : Exit.to K Q .normal a w := h
end
end Go.Sv
