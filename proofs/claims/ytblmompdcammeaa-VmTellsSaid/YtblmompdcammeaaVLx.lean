/- The calculus of values: which words serve which statement. -/
import Derived.Test.YtblmompdcammeaaVLw
set_option linter.all false
namespace Go.VL
open Go
def isEffOp : Op → Bool
  | .alloc _ | .box .. | .store .. | .buildSlice .. | .makeSlice .. => true
  | .call c => match c.callee with | .builtin .append => true | _ => false
  | _ => false
theorem HD2_val {P s dst op rest fp C k} (_ : isEffOp op = false) (h : valD P s op fun d => putOK dst s ∧ HD2 P rest (s.put dst d) (fp ++ [(rdIds s op, [])]) C k) : HD2 P (⟨dst, op, none⟩ :: rest) s fp C k := HD2_cons h
theorem HD2_chg {P s dst op rest fp C k} (_ : isEffOp op = true) (h : effD P s op fun e => putOK dst s ∧ (e.nw = none → dst = none) ∧
    HD2 P rest (s.effS e dst) (fp ++ [(rdIds s op, match e.nw with | none => e.U.map (·.1) | some _ => s.next :: e.U.map (·.1))]) C k) : HD2 P (⟨dst, op, none⟩ :: rest) s fp C k := HD2_eff h
theorem V_drawV {P Γ s} {Q : Exit → St → Prop} {kt : Kt} {id : Nat} {l : List Oper} (_ : (l.all fun o => !isEffOp o.op) = true) (hm : P.follows .mixedOrders = true) (hord : ordOK l = true)
    (h : ∀ k : St → Prop, (∀ s', RunK P Γ Q kt .normal s' → k s') → match stripL l.toArray l with | some l' => HD P l' s k | none => False) : V P Γ (.region id l.toArray true) s (RunK P Γ Q kt) := V_draw1 hm hord h
theorem V_drawE {P Γ s} {Q : Exit → St → Prop} {kt : Kt} {id : Nat} {l : List Oper} (_ : (l.all fun o => !isEffOp o.op) = false) (hm : P.follows .mixedOrders = true) (hord : ordOK l = true) (hn0 : Γ.n0 ≤ s.next)
    (h : ∀ (C : Fp → Prop) (k : St → Prop), (∀ fp, okP l fp = true → C fp) → (∀ s', RunK P Γ Q kt .normal s' → k s') → match stripL l.toArray l with | some l' => HD2 P l' s [] C k | none => False) :
    V P Γ (.region id l.toArray true) s (RunK P Γ Q kt) := V_draw3 hm hord hn0 h
end Go.VL
