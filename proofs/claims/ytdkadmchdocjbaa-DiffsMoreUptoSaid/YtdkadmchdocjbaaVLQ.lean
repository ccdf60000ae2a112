/- Drawn regions with calls that are handed one object: by the objects' numbers, whatever they are. -/
import Derived.Test.YtdkadmchdocjbaaVLY
set_option linter.all false
set_option maxRecDepth 100000
set_option maxHeartbeats 8000000
set_option linter.all false
namespace Go.VL
open Go
/-- Numbers of objects by their places: the first ones are those that were handed over. -/
def rhoI (ids : List Nat) (nx k : Nat) : Nat := match ids[k]? with | some x => x | none => nx + (k - ids.length)
theorem rhoI_inj {ids : List Nat} {nx : Nat} (hd : ids.Nodup) (hlt : ∀ x ∈ ids, x < nx) {a b : Nat} (h : rhoI ids nx a = rhoI ids nx b) : a = b := by
  unfold rhoI at h
  rcases ha : ids[a]? with _ | x <;> rcases hb : ids[b]? with _ | y <;> rw [ha, hb] at h <;> simp only at h
  · have := List.getElem?_eq_none_iff.1 ha
    have := List.getElem?_eq_none_iff.1 hb
    omega
  · have := hlt y (List.mem_of_getElem? hb)
    omega
  · have := hlt x (List.mem_of_getElem? ha)
    omega
  · obtain ⟨h1, h2⟩ := List.getElem?_eq_some_iff.1 ha
    obtain ⟨h3, h4⟩ := List.getElem?_eq_some_iff.1 hb
    rw [List.nodup_iff_pairwise_ne, List.pairwise_iff_getElem] at hd
    rcases Nat.lt_trichotomy a b with hlt' | hlt' | hlt'
    · exact absurd (h2.trans (h.trans h4.symm)) (hd a b h1 h3 hlt')
    · exact hlt'
    · exact absurd (h2.trans (h.trans h4.symm)).symm (hd b a h3 h1 hlt')
inductive KL (ids : List Nat) (nx : Nat) : List Nat → List Nat → Prop
  | nil : KL ids nx [] []
  | cons (k : Nat) {x l l0} (h : rhoI ids nx k = x) (t : KL ids nx l l0) : KL ids nx (x :: l) (k :: l0)
theorem KL.map {ids nx l l0} (h : KL ids nx l l0) : l = l0.map (rhoI ids nx) := by
  induction h with
  | nil => rfl
  | cons k h t ih => rw [List.map_cons, h, ← ih]
inductive KF (ids : List Nat) (nx : Nat) : Fp4 → Fp4 → Prop
  | nil : KF ids nx [] []
  | cons {a a0 b b0 k fp fp0} (h1 : KL ids nx a a0) (h2 : KL ids nx b b0) (h3 : KF ids nx fp fp0) : KF ids nx ((a, b, k) :: fp) ((a0, b0, k) :: fp0)
theorem KF.map {ids nx l l0} (h : KF ids nx l l0) : l = l0.map fun p => (p.1.map (rhoI ids nx), p.2.1.map (rhoI ids nx), p.2.2) := by
  induction h with
  | nil => rfl
  | cons h1 h2 _ ih => rw [List.map_cons, ← h1.map, ← h2.map, ← ih]
theorem disjB_map {ρ : Nat → Nat} (hρ : ∀ a b, ρ a = ρ b → a = b) (a b : List Nat) : disjB (a.map ρ) (b.map ρ) = disjB a b := by
  unfold disjB
  rw [List.all_map]
  congr 1
  funext y
  simp only [Function.comp]
  congr 1
  rw [Bool.eq_iff_iff]
  simp only [List.contains_eq_mem, decide_eq_true_eq, List.mem_map]
  exact ⟨fun ⟨z, h1, h2⟩ => hρ _ _ h2 ▸ h1, fun h => ⟨y, h, rfl⟩⟩
theorem okP4_ren {ops : List Oper} {fp : Fp4} (ids : List Nat) (nx : Nat) (hd : ids.Nodup) (hlt : ∀ x ∈ ids, x < nx) (h : ∃ fp0, KF ids nx fp fp0 ∧ okP4 ops fp0 = true) : okP4 ops fp = true := by
  obtain ⟨fp0, hk, h⟩ := h
  have hr := hk.map
  subst hr
  have hρ : ∀ a b, rhoI ids nx a = rhoI ids nx b → a = b := fun a b => rhoI_inj hd hlt
  have g4 : ∀ i, (fp0.map fun p => (p.1.map (rhoI ids nx), p.2.1.map (rhoI ids nx), p.2.2)).getD i ([], [], 0) = (((fp0.getD i ([], [], 0)).1.map (rhoI ids nx), (fp0.getD i ([], [], 0)).2.1.map (rhoI ids nx), (fp0.getD i ([], [], 0)).2.2)) := fun i => by
    simp only [List.getD_eq_getElem?_getD, List.getElem?_map]
    cases fp0[i]? <;> rfl
  have g2 : ∀ i, ((fp0.map fun p => (p.1.map (rhoI ids nx), p.2.1.map (rhoI ids nx), p.2.2)).map fun p => (p.1, p.2.1)).getD i ([], []) =
      ((((fp0.map fun p => (p.1, p.2.1)).getD i ([], [])).1.map (rhoI ids nx), ((fp0.map fun p => (p.1, p.2.1)).getD i ([], [])).2.map (rhoI ids nx))) := fun i => by
    simp only [List.getD_eq_getElem?_getD, List.getElem?_map]
    cases fp0[i]? <;> rfl
  unfold okP4 okP at h ⊢
  simp only [g4, g2, ← List.map_append, disjB_map hρ, List.isEmpty_map] at h ⊢
  exact h
/-- A call that changes the one object it is handed. -/
theorem HD4_ok1 {P : Program} {Γ : Ctx} {N : Nat} {s : St} {dst : Option Tmp} {rest fp C k} {fop : Operand} {args : Array Operand} {ts : Array TypeId} {f caps} {ds : List D} {d : D} {j : Nat} {ob ob' : Ob}
    (hret : ∀ nx, s.next ≤ nx → RetX P f ds [(j, ob)] nx fun r o n => r = .val d ∧ o = [(j, ob')] ∧ n = nx)
    (hj : getK s.obs j = some ob) (hf : calleeOf (opd s fop) = some (f, caps)) (hc : callable P f = true) (hds : args.toList.map (opd s) ++ caps = ds)
    (hu : d.under N = true ∧ ob'.under N = true) (hp : putOK dst s)
    (h : HD4 P Γ N rest (({ s with obs := applyW [(j, some ob')] s.obs } : St).put dst d) (fp ++ [([j], [j], 0)]) C k) :
    HD4 P Γ N (⟨dst, .call { callee := .value fop, args, argTypes := ts }, none⟩ :: rest) s fp C k :=
  HD4_call [(j, ob)] [(j, ob')] (fun nx hnx => (hret nx hnx).mono fun r o n ⟨h1, h2, h3⟩ => ⟨h1, fun y => by rw [h2], h3⟩) hf hc hds rfl (by simpa using hj) (by simp) ⟨hu.1, by simpa using hu.2⟩ hp h
/-- The same, and it panics. -/
theorem HD4_pan1 {P : Program} {Γ : Ctx} {N : Nat} {s : St} {dst : Option Tmp} {rest fp C k} {fop : Operand} {args : Array Operand} {ts : Array TypeId} {f caps} {ds : List D} {j : Nat} {ob : Ob} {ch : List PanicEntry} {p : Ob → Prop}
    (hret : ∀ nx, s.next ≤ nx → RetX P f ds [(j, ob)] nx fun r o n => r = .pan ch ∧ (∃ ob', p ob' ∧ o = [(j, ob')]) ∧ n = nx)
    (hj : getK s.obs j = some ob) (hf : calleeOf (opd s fop) = some (f, caps)) (hc : callable P f = true) (hds : args.toList.map (opd s) ++ caps = ds) (hp : putOK dst s)
    (hx : ∀ env ob' n, s.next ≤ n → p ob' → ∃ s2, Wk Γ { n := s.n, env := env, obs := del s.obs j ++ [(j, ob')], next := n } s2 ∧ Γ.pan ch s2)
    (h : HD4 P Γ N rest (s.put dst .any) (fp ++ [([], [], 1)]) C k) :
    HD4 P Γ N (⟨dst, .call { callee := .value fop, args, argTypes := ts }, none⟩ :: rest) s fp C k := by
  have hfil : (s.obs.filter fun p => !(([(j, ob)] : List (Nat × Ob)).map (·.1)).contains p.1) = del s.obs j := by
    unfold del
    congr 1
    funext p
    simp only [List.map_cons, List.map_nil, List.contains_cons, List.contains_nil, Bool.or_false]
  refine HD4_stop (post := fun r o _ => r = .pan ch ∧ ∃ ob', p ob' ∧ o = [(j, ob')]) [(j, ob)] (fun nx hnx => (hret nx hnx).mono fun r o n ⟨h1, h2, _⟩ => ⟨h1, h2⟩) (fun d o n h => by cases h.1) hf hc hds (by simpa using hj) hp (fun env ch' o n hn h => ?_) h
  obtain ⟨h1, ob', h2, rfl⟩ := h
  cases h1
  rw [hfil]
  exact hx env ob' n hn h2
/-- Behind a call that panics. -/
theorem HD4_skipS {P Γ N s dst op g rest fp C k} (_ : (fp.any fun p => p.2.2 == 1) = true) (hp : putOK dst s) (h : HD4 P Γ N rest (s.put dst .any) (fp ++ [([], [], 2)]) C k) : HD4 P Γ N (⟨dst, op, g⟩ :: rest) s fp C k := HD4_skip hp h
/-- The end of a call: without its slots and its own objects. -/
theorem FinOK.cut {n0 : Nat} {post : D → List (Nat × Ob) → Nat → Prop} {s : St} {d : D} (obs : List (Nat × Ob)) (N : Nat) (ho : ∀ p ∈ obs, getK s.obs p.1 = some p.2 ∧ p.1 < N ∧ p.2.under N = true) (hd : d.under N = true) (hn : n0 ≤ N)
    (h : post d obs N) : FinOK n0 post s d :=
  .inl ⟨{ s with env := [], obs := obs, next := N }, fun i => i, d, ⟨rfl, fun x d' hx => by simp [getK] at hx, fun x d' hx => by simp [getK] at hx,
    fun i ob hi => ⟨(ho _ (getK_in hi)).2.1, ob, (ho _ (getK_in hi)).1, Ob.le_id ob, (ho _ (getK_in hi)).2.2⟩, fun _ _ _ _ _ _ h => h, fun i hi => ⟨rfl, Nat.lt_of_lt_of_le hi hn⟩⟩, D.le_id d, hd, hn, h⟩
def isVec : D → Bool
  | .vec .. => true
  | _ => false
/-- A slice that is handed over and not needed any more is frozen ahead of the call. -/
theorem CallP_frzV {P : Program} {Γ : Ctx} {s : St} {k : St → Prop} {dst : Option Tmp} {fop : Operand} {args : List Operand} (_ : (args.map (opd s)).any isVec = true) (h : CallP P Γ fop args dst (frzN 1 s) k) : CallP P Γ fop args dst s k :=
  CallP_wk (Wk.frzN 1 _) h
end Go.VL
