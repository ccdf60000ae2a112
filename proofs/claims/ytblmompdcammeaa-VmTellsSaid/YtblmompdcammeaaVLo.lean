/- The calculus of values: one step at a time, over operations told shortly. -/
import Derived.Test.YtblmompdcammeaaVLn
set_option linter.all false
namespace Go.VL
open Go

/-- An operation without its type, place and edges; the guard by the slot that decides. -/
structure O1 where
  dst : Option Tmp
  op : Op
  guard : Option (Tmp × Bool)

def strip (all : Array Oper) (o : Oper) : Option O1 :=
  match o.guard with
  | none => some ⟨o.dst, o.op, none⟩
  | some (j, b) => match guardTmp all j with
    | some t => some ⟨o.dst, o.op, some (t, b)⟩
    | none => none
def stripL (all : Array Oper) : List Oper → Option (List O1)
  | [] => some []
  | o :: l => match strip all o, stripL all l with | some a, some b => some (a :: b) | _, _ => none

def H (P : Program) (Γ : Ctx) (l : List O1) (s : St) (k : St → Prop) : Prop := ∀ all ops, stripL all ops = some l → G P Γ all ops s k

/-- A call of a Go function: to be met by its contract. -/
def CallP (P : Program) (Γ : Ctx) (fop : Operand) (args : List Operand) (dst : Option Tmp) (s : St) (k : St → Prop) : Prop :=
  ∀ ts ty pos after, Eff P Γ { dst, op := .call { callee := .value fop, args := args.toArray, argTypes := ts }, type := ty, pos, after, guard := none } s k

section
variable {P : Program} {Γ : Ctx} {s : St} {k : St → Prop} {dst : Option Tmp}

theorem CallP.fun_ {fop : Operand} {args : List Operand} {f caps} {ds : List D} {L : List Nat} {post : D → Prop} (hret : Fun P f ds post)
    (hf : calleeOf (opd s fop) = some (f, caps)) (hc : callable P f = true) (hds : argsV s (args.map (opd s) ++ caps) = some (ds, L)) (hp : putOK dst s)
    (hk : ∀ d, post d → k (({ s with obs := if scalarD d then s.obs else delAll s.obs L } : St).put dst d)) : CallP P Γ fop args dst s k :=
  fun _ _ _ _ => Eff.callFun hf hc hds hret hp hk
theorem CallP.ret_ {fop : Operand} {args : List Operand} {f caps} {ds : List D} {post : D → List (Nat × Ob) → Nat → Prop} (hret : Ret P f ds s.obs s.next post)
    (hf : calleeOf (opd s fop) = some (f, caps)) (hc : callable P f = true) (hds : args.map (opd s) ++ caps = ds) (hp : putOK dst s)
    (hk : ∀ d obs' nx', s.next ≤ nx' → post d obs' nx' → k (({ s with obs := obs', next := nx' } : St).put dst d)) : CallP P Γ fop args dst s k :=
  fun _ _ _ _ => Eff.callRet hf hc hds hret hp hk
end

def hstep (P : Program) (Γ : Ctx) (dst : Option Tmp) (op : Op) (s : St) (k : St → Prop) : Prop :=
  match op with
  | .alloc t => allocD P t s dst k
  | .box t x => boxD (opd s x) s dst k
  | .store t x y => dst = none ∧ storeD P t (opd s x) (opd s y) s k
  | .buildSlice t n parts => buildSliceD P t n (parts.toList.map fun p => (p.1, opd s p.2)) s dst k
  | .makeSlice t x y => makeD P t (opd s x) (opd s y) s dst k
  | .call c => match c.callee with
    | .value f => CallP P Γ f c.args.toList dst s k
    | .builtin .append => match c.args, c.argTypes with
      | ⟨[x, y]⟩, ⟨[t, t']⟩ => t = t' ∧ appendD P t (opd s x) (opd s y) s dst k
      | _, _ => False
    | _ => evPure P s op fun d => putOK dst s ∧ k (s.put dst d)
  | _ => evPure P s op fun d => putOK dst s ∧ k (s.put dst d)

theorem hstep_eff {P : Program} {Γ : Ctx} {o : Oper} {s : St} {k : St → Prop} (h : hstep P Γ o.dst o.op s k) (hg : o.guard = none) : Eff P Γ o s k := by
  obtain ⟨dst, op, type, pos, after, guard⟩ := o
  simp only at h hg
  subst hg
  cases op
  case alloc t => exact Eff.alloc rfl h
  case box t x => exact Eff.box rfl h
  case store t x y =>
    obtain ⟨h1, h2⟩ := h
    exact Eff.store rfl h1 h2
  case buildSlice t n parts => exact Eff.buildSlice rfl h
  case makeSlice t x y => exact Eff.make rfl h
  case call c =>
    obtain ⟨callee, args, ts⟩ := c
    cases callee
    case value f =>
      obtain ⟨args⟩ := args
      exact h ts type pos after
    case invoke r m => exact Eff.pure h
    case builtin b =>
      cases b
      case append =>
        simp only [hstep] at h
        split at h
        · obtain ⟨rfl, h⟩ := h
          exact Eff.append rfl h
        · exact h.elim
      all_goals exact Eff.pure h
  all_goals exact Eff.pure h

/-- One step of a list of operations. -/
def hcons (P : Program) (Γ : Ctx) (o : O1) (rest : List O1) (s : St) (k : St → Prop) : Prop :=
  match o.guard with
  | none => hstep P Γ o.dst o.op s fun s' => H P Γ rest s' k
  | some (t, want) => match getK s.env t with
    | some (.u (.bool b)) => putOK o.dst s ∧
        (b = want → hstep P Γ o.dst o.op (s.put (some t) (.u (.bool want))) fun s' => H P Γ rest s' k) ∧
        (b = !want → H P Γ rest ((s.put (some t) (.u (.bool (!want)))).put o.dst .un) k)
    | some (.u (.oth v)) => v = undef ∧ putOK o.dst s ∧ H P Γ rest (s.put o.dst .un) k
    | _ => False

theorem stripL_cons {all : Array Oper} {ops : List Oper} {o : O1} {rest : List O1} (h : stripL all ops = some (o :: rest)) :
    ∃ op ops', ops = op :: ops' ∧ strip all op = some o ∧ stripL all ops' = some rest := by
  cases ops with
  | nil => simp [stripL] at h
  | cons x l =>
    simp only [stripL] at h
    split at h
    · rename_i a b ha hb
      simp at h
      obtain ⟨rfl, rfl⟩ := h
      exact ⟨x, l, rfl, ha, hb⟩
    · cases h

theorem H_nil {P Γ s k} (h : k s) : H P Γ [] s k := fun all ops e => by
  cases ops with
  | nil => exact G_nil h
  | cons x l => simp only [stripL] at e; split at e <;> simp at e

theorem Eff.mono {P Γ o s} {k k' : St → Prop} (h : Eff P Γ o s k) (hk : ∀ s, k s → k' s) : Eff P Γ o s k' :=
  fun K a w hin hs Kont Q hK => h K a w hin hs Kont Q fun K' a' w' s' h1 h2 h3 => hK K' a' w' s' h1 h2 (hk s' h3)

theorem H_cons {P Γ o rest s k} (h : hcons P Γ o rest s k) : H P Γ (o :: rest) s k := by
  intro all ops e
  obtain ⟨x, ops', rfl, hx, hr⟩ := stripL_cons e
  obtain ⟨dst, op, type, pos, after, guard⟩ := x
  unfold strip at hx
  unfold hcons at h
  simp only at hx
  cases guard with
  | none =>
    simp at hx
    subst hx
    simp only at h
    exact G_eff ((hstep_eff (o := { dst, op, type, pos, after, guard := none }) h rfl).mono fun s' h => h all ops' hr)
  | some g =>
    obtain ⟨j, b⟩ := g
    simp only at hx
    split at hx
    · rename_i t ht
      simp at hx
      subst hx
      simp only at h
      split at h
      · rename_i b' hb
        obtain ⟨hp, hy, hn⟩ := h
        refine G_guard ht hb hp (fun e => ?_) (fun e => hn e all ops' hr)
        exact G_eff ((hstep_eff (o := { dst, op, type, pos, after, guard := none }) (hy e) rfl).mono fun s' h => h all ops' hr)
      · rename_i v hb
        obtain ⟨rfl, hp, hn⟩ := h
        exact G_guardU ht hb hp (hn all ops' hr)
      · exact h.elim
    · cases hx

theorem V_region1 {P Γ s} {Q : Exit → St → Prop} {kt : Kt} {id : Nat} {l : List Oper}
    (h : ∀ k : St → Prop, (∀ s', RunK P Γ Q kt .normal s' → k s') → match stripL l.toArray l with | some l' => H P Γ l' s k | none => False) : V P Γ (.region id l.toArray false) s (RunK P Γ Q kt) := by
  refine V_region ?_
  have := h _ fun _ h => h
  split at this
  · rename_i l' hl
    exact this _ _ hl
  · exact this.elim

theorem V_know {P Γ c s Q} {A : Prop} (hA : ∀ K a w, Sim K Γ.own s a w → A) (h : A → V P Γ c s Q) : V P Γ c s Q := fun K a w hin hs => h (hA K a w hs) K a w hin hs
/-- A slice that came in has a length that an int holds. -/
theorem V_len {P Γ c s Q} {x : Nat} {rows : List (List U)} (hx : getK s.env x = some (.u (.sl rows))) (h : rows.length ≤ 9223372036854775807 → V P Γ c s Q) : V P Γ c s Q :=
  V_know (fun K a w hs => by
    have hr := (hs.getK hx).2
    cases hr with
    | u _ _ hr =>
      generalize a.tmps.getD x undef = v at hr
      cases hr with
      | slE => simp
      | sl _ b o sz c f hc hcx => unfold maxLen at hcx; omega) h

end Go.VL
