/- The calculus of values: the steps as they are taken. -/
import Derived.Test.YtblmompdcammeaaVLm
set_option linter.all false
namespace Go.VL
open Go

section
variable {P : Program} {Γ : Ctx} {all : Array Oper} {rest : List Oper} {s : St} {k : St → Prop} {dst : Option Tmp} {type : TypeId} {pos : String} {after : Array Edge}

theorem G_pure {op : Op} (h : evPure P s op fun d => putOK dst s ∧ G P Γ all rest (s.put dst d) k) : G P Γ all ({ dst, op, type, pos, after, guard := none } :: rest) s k := G_eff (Eff.pure h)
theorem G_move {x : Operand} (hp : putOK dst s) (h : G P Γ all rest (s.put dst (opd s x)) k) : G P Γ all ({ dst, op := .move x, type, pos, after, guard := none } :: rest) s k := G_pure ⟨hp, h⟩
theorem G_assign {x : Operand} (hp : putOK dst s) (h : G P Γ all rest (s.put dst (opd s x)) k) : G P Γ all ({ dst, op := .assign x, type, pos, after, guard := none } :: rest) s k := G_pure ⟨hp, h⟩
theorem G_alloc {t} (h : allocD P t s dst fun s' => G P Γ all rest s' k) : G P Γ all ({ dst, op := .alloc t, type, pos, after, guard := none } :: rest) s k := G_eff (Eff.alloc rfl h)
theorem G_box {t x} (h : boxD (opd s x) s dst fun s' => G P Γ all rest s' k) : G P Γ all ({ dst, op := .box t x, type, pos, after, guard := none } :: rest) s k := G_eff (Eff.box rfl h)
theorem G_store {t x y} (h : storeD P t (opd s x) (opd s y) s fun s' => G P Γ all rest s' k) : G P Γ all ({ dst := none, op := .store t x y, type, pos, after, guard := none } :: rest) s k := G_eff (Eff.store rfl rfl h)
theorem G_build {t n} {parts : List (Nat × Operand)} (h : buildSliceD P t n (parts.map fun p => (p.1, opd s p.2)) s dst fun s' => G P Γ all rest s' k) :
    G P Γ all ({ dst, op := .buildSlice t n parts.toArray, type, pos, after, guard := none } :: rest) s k := G_eff (Eff.buildSlice rfl h)
theorem G_append {t x y} (h : appendD P t (opd s x) (opd s y) s dst fun s' => G P Γ all rest s' k) :
    G P Γ all ({ dst, op := .call { callee := .builtin .append, args := #[x, y], argTypes := #[t, t] }, type, pos, after, guard := none } :: rest) s k := G_eff (Eff.append rfl h)
theorem G_make {t x y} (h : makeD P t (opd s x) (opd s y) s dst fun s' => G P Γ all rest s' k) : G P Γ all ({ dst, op := .makeSlice t x y, type, pos, after, guard := none } :: rest) s k := G_eff (Eff.make rfl h)
theorem G_callFun {fop : Operand} {args : List Operand} {ts : Array TypeId} {f caps} {ds : List D} {L : List Nat} {post : D → Prop} (hret : Fun P f ds post)
    (hf : calleeOf (opd s fop) = some (f, caps)) (hc : callable P f = true) (hds : argsV s (args.map (opd s) ++ caps) = some (ds, L)) (hp : putOK dst s)
    (hk : ∀ d, post d → G P Γ all rest (({ s with obs := if scalarD d then s.obs else delAll s.obs L } : St).put dst d) k) :
    G P Γ all ({ dst, op := .call { callee := .value fop, args := args.toArray, argTypes := ts }, type, pos, after, guard := none } :: rest) s k := G_eff (Eff.callFun hf hc hds hret hp hk)
theorem G_callRet {fop : Operand} {args : List Operand} {ts : Array TypeId} {f caps} {ds : List D} {post : D → List (Nat × Ob) → Nat → Prop} (hret : Ret P f ds s.obs s.next post)
    (hf : calleeOf (opd s fop) = some (f, caps)) (hc : callable P f = true) (hds : args.map (opd s) ++ caps = ds) (hp : putOK dst s)
    (hk : ∀ d obs' nx', s.next ≤ nx' → post d obs' nx' → G P Γ all rest (({ s with obs := obs', next := nx' } : St).put dst d) k) :
    G P Γ all ({ dst, op := .call { callee := .value fop, args := args.toArray, argTypes := ts }, type, pos, after, guard := none } :: rest) s k := G_eff (Eff.callRet hf hc hds hret hp hk)
end

/-- At the end of a function that was handed values alone. -/
theorem FinOK.val {s : St} {d : D} {post : D → Prop} (hp : pureD d = true) (h : post d) : FinOK 0 (fun d _ _ => pureD d = true ∧ post d) s d :=
  .inl ⟨{ n := s.n, env := [], obs := [], next := 0 }, id, d, ⟨rfl, fun x d' hx => by simp [getK] at hx, fun x d' hx => by simp [getK] at hx, fun i ob hi => by simp [getK] at hi, fun i j a b hi => by simp [getK] at hi, fun i hi => by omega⟩,
    .inr (.inl (ren_pure d hp).symm), under_pure d hp, Nat.le_refl _, hp, h⟩
where
  ren_pure : ∀ (d : D), pureD d = true → d.ren id = d
    | .u x, _ => by rw [D.ren]
    | .tup ds, h => by
      rw [pureD] at h
      rw [D.ren]
      congr 1
      apply List.ext_getElem?
      intro j
      rw [List.getElem?_map]
      cases hj : ds[j]? with
      | none => rfl
      | some d =>
        have hm := List.mem_of_getElem? hj
        have := (List.all_eq_true.1 h) _ (List.mem_map.2 ⟨d, hm, rfl⟩)
        simp [ren_pure d this]
    | .any, h => by simp [pureD] at h
    | .ptr .., h => by simp [pureD] at h
    | .vec .., h => by simp [pureD] at h
    | .elt .., h => by simp [pureD] at h
    | .fnc .., h => by simp [pureD] at h
    | .agg .., h => by simp [pureD] at h
  termination_by d => SizeOf.sizeOf d
  decreasing_by
    simp_wf
    have := List.sizeOf_lt_of_mem hm
    omega
  under_pure : ∀ (d : D), pureD d = true → d.under 0 = true
    | .u x, _ => by rw [D.under]
    | .tup ds, h => by
      rw [pureD] at h
      rw [D.under]
      refine List.all_eq_true.2 fun b hb => ?_
      obtain ⟨d, hm, rfl⟩ := List.mem_map.1 hb
      have := (List.all_eq_true.1 h) _ (List.mem_map.2 ⟨d, hm, rfl⟩)
      exact under_pure d this
    | .any, h => by simp [pureD] at h
    | .ptr .., h => by simp [pureD] at h
    | .vec .., h => by simp [pureD] at h
    | .elt .., h => by simp [pureD] at h
    | .fnc .., h => by simp [pureD] at h
    | .agg .., h => by simp [pureD] at h
  termination_by d => SizeOf.sizeOf d
  decreasing_by
    simp_wf
    have := List.sizeOf_lt_of_mem hm
    omega

theorem EndOK.val {P fn e s} {post : D → Prop} (he : e = .normal ∨ e = .ret) (h : resD P s fn.results.toList fun ds => pureD (oneOrTup ds) = true ∧ post (oneOrTup ds)) :
    EndOK P fn 0 (fun d _ _ => pureD d = true ∧ post d) e s := ⟨he, by
  have mono : ∀ (rs : List ResultVar) (K K' : List D → Prop), (∀ ds, K ds → K' ds) → resD P s rs K → resD P s rs K' := by
    intro rs
    induction rs with
    | nil => intro K K' hk h; exact hk _ h
    | cons r rs ih =>
      intro K K' hk h
      cases r with
      | tmp t => exact ih _ _ (fun ds => hk _) h
      | cell a t =>
        have lm : ∀ (x : D) (A B : D → Prop), (∀ d, A d → B d) → loadD P s t x A → loadD P s t x B := by
          intro x A B hab h
          unfold loadD at h ⊢
          have cm : ∀ {α : Type} (cells : List α) (off : Nat) (l : Option Nat) (o o' : α → Prop) (m m' : List α → Prop), (∀ x, o x → o' x) → (∀ x, m x → m' x) → cellsAt cells off l o m → cellsAt cells off l o' m' := by
            intro α cells off l o o' m m' h1 h2 h
            unfold cellsAt at h ⊢
            split at h
            · obtain ⟨u, hu, h⟩ := h; exact ⟨u, hu, h1 _ h⟩
            · exact ⟨h.1, h2 _ h.2⟩
          split at h
          · exact h
          · split at h
            · exact cm _ _ _ _ _ _ _ (fun _ => hab _) (fun _ => hab _) h
            · split at h
              · exact cm _ _ _ _ _ _ _ (fun _ => hab _) (fun _ => hab _) h
              · exact h
            · split at h
              · obtain ⟨h0, r, hr, h⟩ := h
                exact ⟨h0, r, hr, cm _ _ _ _ _ _ _ (fun _ => hab _) (fun _ => hab _) h⟩
              · exact h
            · exact h
        exact lm _ _ _ (fun d => ih _ _ (fun ds => hk _)) h
  exact mono _ _ _ (fun ds h => FinOK.val h.1 h.2) h⟩

end Go.VL
