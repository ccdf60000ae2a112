/- Calculus: states told again, the numbers of objects found by the variables that name them. -/
import Derived.Test.YtdkadmchdocjbaaVLR
set_option linter.all false
set_option maxRecDepth 100000
set_option maxHeartbeats 8000000
namespace Go.VL
open Go
def idOf : D → Option Nat
  | .ptr i _ => some i
  | .vec i _ => some i
  | .elt i _ _ _ => some i
  | .mp i => some i
  | _ => none
/-- Which object of the one state is which object of the other. -/
def rhoL (e : List (Nat × D)) : List (Nat × D) → List (Nat × Nat)
  | [] => []
  | p :: l => match idOf p.2, (getK e p.1).bind idOf with
    | some i, some m => (i, m) :: rhoL e l
    | _, _ => rhoL e l
def rhoF : List (Nat × Nat) → Nat → Nat
  | [], i => i
  | p :: l, i => if i = p.1 then p.2 else rhoF l i
theorem Wk.auto {Γ : Ctx} {s s' : St} (l : List (Nat × Nat)) (_ : rhoL s.env s'.env = l) (hn : s'.n = s.n) (hx : ∀ i, i < Γ.n0 → rhoF l i = i ∧ i < s'.next) (he : wkER s (rhoF l) s'.next s'.env) (ho : wkR s (rhoF l) s'.next s'.obs)
    (hi : ∀ i ∈ s'.obs.map (·.1), ∀ j ∈ s'.obs.map (·.1), rhoF l i = rhoF l j → i = j) : Wk Γ s s' := Wk.ren (rhoF l) hn hx he ho hi
/-- What is left to do is shown once, for one state, and used on every way that leads there: by 'apply', so that code and end are found on the first way. -/
theorem V_share {P : Program} {Γ : Ctx} {S : St} {R : Prop} (c : Code) (Q : Exit → St → Prop) (main : V P Γ c S Q → R) (key : V P Γ c S Q) : R := main key
end Go.VL
