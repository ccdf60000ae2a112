/- The calculus of values: what a walk needs to know of its words is told by the laws alone. -/
import Derived.Test.YtblmompdcammeaaVLq
set_option linter.all false
namespace Go.VL
open Go
theorem Fun.of_body {P f fn c ds post} (hf : P.funcs[f]? = some fn) (hb : fn.body = some c) (hn : ds.length ≤ fn.ntmps)
    (h : ∀ Γ : Ctx, Γ.n0 = 0 → V P Γ c (entry ds fn.ntmps [] 0) (RunK P Γ (EndOK P fn 0 fun d _ _ => pureD d = true ∧ post d) .done)) : Fun P f ds post := Ret.of_body hf hb hn h
theorem Fun.mono {P f ds} {p q : D → Prop} (h : Fun P f ds p) (hq : ∀ d, p d → q d) : Fun P f ds q := fun k own w vs h1 h2 h3 h4 =>
  Calls.mono (h k own w vs h1 h2 h3 h4) fun _ _ ⟨v, d, o, n, k', e, a, b, c, g, r, hp, hpost⟩ => ⟨v, d, o, n, k', e, a, b, c, g, r, hp, hq d hpost⟩
theorem Fun.eq {P f ds} {d d' : D} (h : Fun P f ds (· = d)) (e : d = d') : Fun P f ds (· = d') := by rw [← e]; exact h
end Go.VL
