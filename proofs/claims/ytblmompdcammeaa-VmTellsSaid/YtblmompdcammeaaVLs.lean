/- The calculus of values: a loop that is left in its first round. -/
import Derived.Test.YtblmompdcammeaaVLr
set_option linter.all false
namespace Go.VL
open Go
theorem V_once {P Γ Q k s} {c : Code} (h : V P Γ c s (RunK P Γ Q (.loop (fun _ => False) k))) : V P Γ (.loop c) s (RunK P Γ Q k) := by
  intro K a w hin hs b kk cs
  obtain ⟨e, a1, w1, ⟨K1, s1, h1, h2, h3⟩, harr⟩ := h K a w hin hs b (.inLoop c :: kk) cs
  have harr0 := harr
  refine (fun (hx : ∃ e a' w', (∃ K' s', In Γ K' w' ∧ Sim K' Γ.own s' a' w' ∧ RunK P Γ Q k e s') ∧ Arrives P (lone (b.at a (.code c :: .inLoop c :: kk)) cs w) b kk cs e a' w') => by
    obtain ⟨e, a', w', hq, harr⟩ := hx
    exact ⟨e, a', w', hq, .of_steps (.one step_loop) harr⟩) ?_
  cases e with
  | normal => exact h3.elim
  | exit id => exact ⟨_, a1, w1, ⟨K1, s1, h1, h2, h3⟩, .pass (x := .inLoop c) rfl (fun _ _ => .inl (by simp)) harr⟩
  | goto l => exact ⟨_, a1, w1, ⟨K1, s1, h1, h2, h3⟩, .pass (x := .inLoop c) rfl (fun _ _ => .inl (by simp)) harr⟩
  | ret => exact ⟨_, a1, w1, ⟨K1, s1, h1, h2, h3⟩, .pass (x := .inLoop c) rfl (fun _ _ => .inl (by simp)) harr⟩
  | panic ch => exact ⟨_, a1, w1, ⟨K1, s1, h1, h2, h3⟩, .pass (x := .inLoop c) rfl (fun _ _ => .inl (by simp)) harr⟩
  | outgrown => exact ⟨_, a1, w1, ⟨K1, s1, h1, h2, h3⟩, .pass (x := .inLoop c) rfl (fun _ _ => .inl (by simp)) harr⟩
end Go.VL
