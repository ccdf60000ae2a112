/- Calls that are handed several objects, and say what becomes of each; they go through, or panic. -/
import Derived.Test.YtdkadmchdocjbaaVLQ
set_option linter.all false
set_option maxRecDepth 100000
set_option maxHeartbeats 8000000
set_option linter.all false
namespace Go.VL
open Go
def delL {α : Type} (obs : List (Nat × α)) : List Nat → List (Nat × α)
  | [] => obs
  | i :: l => delL (del obs i) l
theorem delL_filter {α : Type} : ∀ (l : List Nat) (obs : List (Nat × α)), delL obs l = obs.filter fun p => !l.contains p.1
  | [], obs => by rw [delL]; exact (List.filter_eq_self.2 (by simp)).symm
  | i :: l, obs => by
    rw [delL, delL_filter l, del, List.filter_filter]
    congr 1
    funext p
    simp only [List.contains_cons]
    cases p.1 == i <;> cases l.contains p.1 <;> rfl
theorem delL_heq {obs O : List (Nat × Ob)} (hO : ∀ p ∈ O, getK obs p.1 = some p.2) (i : Nat) : getK obs i = getK (delL obs (O.map (·.1)) ++ O) i := by
  rw [delL_filter, getK_append, getK_filterN]
  by_cases hy : (O.map (·.1)).contains i = true
  · rw [if_pos hy]
    obtain ⟨x, hx⟩ := getK_isSome (l := O) (y := i) (by simpa using hy)
    rw [hx, hO _ (getK_memK hx)]
  · rw [if_neg hy, getK_keys O i (by simpa using hy)]
    cases getK obs i <;> rfl
theorem delL_none {obs O : List (Nat × Ob)} (i : Nat) (ob : Ob) (h : getK (delL obs (O.map (·.1))) i = some ob) : getK O i = none := by
  rw [delL_filter, getK_filterN] at h
  by_cases hc : (O.map (·.1)).contains i = true
  · rw [if_pos hc] at h; cases h
  · exact getK_keys O i (by simpa using hc)
/-- A call that is handed objects, and goes through. -/
theorem CallP.okL {P : Program} {Γ : Ctx} {s : St} {k : St → Prop} {dst : Option Tmp} {fop : Operand} {args : List Operand} {f caps} {ds : List D} {O O' : List (Nat × Ob)} {d : D} {N : Nat}
    (hret : RetX P f ds O s.next fun r o n => r = .val d ∧ o = O' ∧ n = N) (hO : ∀ p ∈ O, getK s.obs p.1 = some p.2)
    (hf : calleeOf (opd s fop) = some (f, caps)) (hc : callable P f = true) (hds : args.map (opd s) ++ caps = ds) (hp : putOK dst s)
    (hk : k (({ s with obs := delL s.obs (O.map (·.1)) ++ O', next := N } : St).put dst d)) : CallP P Γ fop args dst s k :=
  CallP.xF (delL s.obs (O.map (·.1))) O hret (delL_heq hO) delL_none hf hc hds hp (fun d' o1 nx' _ ⟨h1, h2, h3⟩ => by cases h1; subst h2; subst h3; exact hk) (fun ch o1 nx' _ ⟨h1, _⟩ => by cases h1)
/-- A call that is handed objects, and panics. -/
theorem CallP.panL {P : Program} {Γ : Ctx} {s : St} {k : St → Prop} {dst : Option Tmp} {fop : Operand} {args : List Operand} {f caps} {ds : List D} {O O' : List (Nat × Ob)} {ch : List PanicEntry}
    (hret : RetX P f ds O s.next fun r o n => r = .pan ch ∧ o = O' ∧ n = s.next) (hO : ∀ p ∈ O, getK s.obs p.1 = some p.2)
    (hf : calleeOf (opd s fop) = some (f, caps)) (hc : callable P f = true) (hds : args.map (opd s) ++ caps = ds) (hp : putOK dst s)
    (hx : ∃ s2, Wk Γ { s with obs := delL s.obs (O.map (·.1)) ++ O', next := s.next } s2 ∧ Γ.pan ch s2) : CallP P Γ fop args dst s k :=
  CallP.xF (delL s.obs (O.map (·.1))) O hret (delL_heq hO) delL_none hf hc hds hp (fun d' o1 nx' _ ⟨h1, _⟩ => by cases h1) (fun ch' o1 nx' _ ⟨h1, h2, h3⟩ => by cases h1; subst h2; subst h3; exact hx)
theorem HD4_okL {P : Program} {Γ : Ctx} {N : Nat} {s : St} {dst : Option Tmp} {rest fp C k} {fop : Operand} {args : Array Operand} {ts : Array TypeId} {f caps} {ds : List D} {d : D} {O O' : List (Nat × Ob)}
    (hret : ∀ nx, s.next ≤ nx → RetX P f ds O nx fun r o n => r = .val d ∧ o = O' ∧ n = nx)
    (hO : ∀ p ∈ O, getK s.obs p.1 = some p.2) (hkeys : O'.map (·.1) = O.map (·.1)) (hnd : (O.map (·.1)).Nodup)
    (hf : calleeOf (opd s fop) = some (f, caps)) (hc : callable P f = true) (hds : args.toList.map (opd s) ++ caps = ds)
    (hu : d.under N = true ∧ ∀ p ∈ O', p.2.under N = true) (hp : putOK dst s)
    (h : HD4 P Γ N rest (({ s with obs := applyW (O'.map fun p => (p.1, some p.2)) s.obs } : St).put dst d) (fp ++ [(O.map (·.1), O'.map (·.1), 0)]) C k) :
    HD4 P Γ N (⟨dst, .call { callee := .value fop, args, argTypes := ts }, none⟩ :: rest) s fp C k :=
  HD4_call O O' (fun nx hnx => (hret nx hnx).mono fun r o n ⟨h1, h2, h3⟩ => ⟨h1, fun y => by rw [h2], h3⟩) hf hc hds hkeys hO hnd hu hp h
/-- A call that changes the first one of the objects it is handed. -/
theorem HD4_okF {P : Program} {Γ : Ctx} {N : Nat} {s : St} {dst : Option Tmp} {rest fp C k} {fop : Operand} {args : Array Operand} {ts : Array TypeId} {f caps} {ds : List D} {d : D} {j : Nat} {ob ob' : Ob} {F : List (Nat × Ob)}
    (hret : ∀ nx, s.next ≤ nx → RetX P f ds ((j, ob) :: F) nx fun r o n => r = .val d ∧ (∀ y, getK o y = getK ((j, ob') :: F) y) ∧ n = nx)
    (hO : ∀ p ∈ (j, ob) :: F, getK s.obs p.1 = some p.2) (hnd : (((j, ob) :: F).map (·.1)).Nodup)
    (hf : calleeOf (opd s fop) = some (f, caps)) (hc : callable P f = true) (hds : args.toList.map (opd s) ++ caps = ds)
    (hu : d.under N = true ∧ ∀ p ∈ (j, ob') :: F, p.2.under N = true) (hp : putOK dst s)
    (h : HD4 P Γ N rest (({ s with obs := applyW [(j, some ob')] s.obs } : St).put dst d) (fp ++ [(j :: F.map (·.1), [j], 0)]) C k) :
    HD4 P Γ N (⟨dst, .call { callee := .value fop, args, argTypes := ts }, none⟩ :: rest) s fp C k := by
  have hj : ∀ p ∈ F, ¬ p.1 = j := fun p hp e => by
    rw [List.map_cons, List.nodup_cons] at hnd
    exact hnd.1 (List.mem_map.2 ⟨p, hp, e⟩)
  have hfl : (((j, ob') :: F).filter fun p => [j].contains p.1) = [(j, ob')] := by
    rw [List.filter_cons, if_pos (by simp)]
    congr 1
    refine List.filter_eq_nil_iff.2 fun p hp => ?_
    have := hj p hp
    simp only [List.contains_cons, List.contains_nil, Bool.or_false, beq_iff_eq]
    exact this
  refine HD4_callL ((j, ob) :: F) ((j, ob') :: F) [j] hret hf hc hds rfl (fun y hy => ?_) hO hnd hu hp ?_
  · have : ¬ y = j := fun e => by subst e; simp at hy
    rw [getK_cons, getK_cons, if_neg this, if_neg this]
  · rw [hfl]
    exact h
/-- A call that leaves the objects it is handed as they are. -/
theorem HD4_okR {P : Program} {Γ : Ctx} {N : Nat} {s : St} {dst : Option Tmp} {rest fp C k} {fop : Operand} {args : Array Operand} {ts : Array TypeId} {f caps} {ds : List D} {d : D} {O : List (Nat × Ob)}
    (hret : ∀ nx, s.next ≤ nx → RetX P f ds O nx fun r o n => r = .val d ∧ o = O ∧ n = nx)
    (hO : ∀ p ∈ O, getK s.obs p.1 = some p.2) (hnd : (O.map (·.1)).Nodup)
    (hf : calleeOf (opd s fop) = some (f, caps)) (hc : callable P f = true) (hds : args.toList.map (opd s) ++ caps = ds)
    (hu : d.under N = true ∧ ∀ p ∈ O, p.2.under N = true) (hp : putOK dst s)
    (h : HD4 P Γ N rest (s.put dst d) (fp ++ [(O.map (·.1), [], 0)]) C k) :
    HD4 P Γ N (⟨dst, .call { callee := .value fop, args, argTypes := ts }, none⟩ :: rest) s fp C k := by
  refine HD4_callL O O [] (fun nx hnx => (hret nx hnx).mono fun r o n ⟨h1, h2, h3⟩ => ⟨h1, fun y => by rw [h2], h3⟩) hf hc hds rfl (fun y hy => rfl) hO hnd hu hp ?_
  have hfl : (O.filter fun p => ([] : List Nat).contains p.1) = [] := List.filter_eq_nil_iff.2 fun p hp => by simp
  rw [hfl]
  exact h
theorem HD4_panL {P : Program} {Γ : Ctx} {N : Nat} {s : St} {dst : Option Tmp} {rest fp C k} {fop : Operand} {args : Array Operand} {ts : Array TypeId} {f caps} {ds : List D} {O O' : List (Nat × Ob)} {ch : List PanicEntry}
    (hret : ∀ nx, s.next ≤ nx → RetX P f ds O nx fun r o n => r = .pan ch ∧ o = O' ∧ n = nx)
    (hO : ∀ p ∈ O, getK s.obs p.1 = some p.2)
    (hf : calleeOf (opd s fop) = some (f, caps)) (hc : callable P f = true) (hds : args.toList.map (opd s) ++ caps = ds) (hp : putOK dst s)
    (hx : ∀ env n, s.next ≤ n → ∃ s2, Wk Γ { n := s.n, env := env, obs := delL s.obs (O.map (·.1)) ++ O', next := n } s2 ∧ Γ.pan ch s2)
    (h : HD4 P Γ N rest (s.put dst .any) (fp ++ [([], [], 1)]) C k) :
    HD4 P Γ N (⟨dst, .call { callee := .value fop, args, argTypes := ts }, none⟩ :: rest) s fp C k := by
  refine HD4_stop (post := fun r o _ => r = .pan ch ∧ o = O') O (fun nx hnx => (hret nx hnx).mono fun r o n ⟨h1, h2, _⟩ => ⟨h1, h2⟩) (fun d o n h => by cases h.1) hf hc hds hO hp (fun env ch' o n hn h => ?_) h
  obtain ⟨h1, rfl⟩ := h
  cases h1
  rw [← delL_filter]
  exact hx env n hn
/-- A call behind one that panics. -/
theorem HD4_skipC {P Γ N s dst c g rest fp C k} (_ : (fp.any fun p => p.2.2 == 1) = true) (hp : putOK dst s) (h : HD4 P Γ N rest (s.put dst .any) (fp ++ [([], [], 2)]) C k) : HD4 P Γ N (⟨dst, .call c, g⟩ :: rest) s fp C k := HD4_skip hp h
/-- A function is left behind which a deferred one is called that is handed objects. -/
theorem LeaveD.of {P : Program} {Γb : Ctx} {fn : Func} {post : Out → List (Nat × Ob) → Nat → Prop} {g : FuncId} {caps : List D} {u : FrameMode} {s : St} (O : List (Nat × Ob)) {O' : List (Nat × Ob)} (hO : ∀ p ∈ O, getK s.obs p.1 = some p.2)
    (h : RetDf P g caps O s.next u fun u' o n => settle u' = .returning ∧ n = s.next ∧ o = O') (hk : EndW P Γb fn Γb.n0 (fun d o n => post (.val d) o n) .ret { s with obs := delL s.obs (O.map (·.1)) ++ O', next := s.next }) :
    LeaveD P Γb fn post g caps u s :=
  ((h.frame (delL s.obs (O.map (·.1))) delL_none).congr (delL_heq hO)).mono fun u' o n ⟨o1, ho, hs, hn, ho1⟩ => ⟨hs, by subst ho; subst ho1; subst hn; exact hk⟩
theorem nef {i nx : Nat} (h : i < nx) : ¬ i = nx ∧ ¬ nx = i ∧ (∀ k, ¬ i = nx + k) ∧ ∀ k, ¬ nx + k = i := ⟨by omega, by omega, fun k => by omega, fun k => by omega⟩
end Go.VL
