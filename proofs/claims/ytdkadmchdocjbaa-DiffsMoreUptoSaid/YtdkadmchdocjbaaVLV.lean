/- Calculus: calls beside a family. -/
import Derived.Test.YtdkadmchdocjbaaVLU
set_option linter.all false
set_option maxRecDepth 100000
set_option maxHeartbeats 8000000
namespace Go.VL
open Go
/-- A call that is handed some objects, but none of a family. -/
theorem CallP.retT {P : Program} {Γ : Ctx} {s : St} {k : St → Prop} {dst : Option Tmp} {fop : Operand} {args : List Operand} {f caps} {ds : List D} {post : D → List (Nat × Ob) → Nat → Prop} (A F0 H : List (Nat × Ob)) (b : Nat) (L : List Ob) (hret : Ret P f ds H s.next post)
    (hA : s.obs = A ++ fam b L) (h1 : ∀ i, getK A i = getK (F0 ++ H) i) (hF : ∀ q ∈ F0, ∀ x ∈ H, q.1 ≠ x.1) (hH : ∀ x ∈ H, x.1 < b ∨ L.length + b ≤ x.1)
    (hf : calleeOf (opd s fop) = some (f, caps)) (hc : callable P f = true) (hds : args.map (opd s) ++ caps = ds) (hp : putOK dst s)
    (hk : ∀ d o1 nx', s.next ≤ nx' → post d o1 nx' → (∀ x ∈ o1, (x.1 < b ∨ L.length + b ≤ x.1) ∧ ∀ q ∈ F0, q.1 ≠ x.1) ∧ k (({ s with obs := o1 ++ (F0 ++ fam b L), next := nx' } : St).put dst d)) : CallP P Γ fop args dst s k := by
  refine CallP.retR (F0 ++ fam b L) H hret (fun i => ?_) (fun i ob hi => ?_) hf hc hds hp fun d o1 nx' hn hpo => ?_
  · rw [hA, getK_append, h1 i]
    simp only [getK_append]
    cases hq : getK H i with
    | none => cases getK F0 i <;> cases getK (fam b L) i <;> rfl
    | some o =>
      obtain ⟨x, hx, e⟩ := List.mem_map.1 (getK_mem hq)
      have := hH x hx
      rw [getK_none (l := fam b L) (fun q hq => by have := fam_keys b L q hq; omega)]
      cases getK F0 i <;> rfl
  · refine getK_none fun x hx e => ?_
    have h2 := hH x hx
    rw [getK_append] at hi
    cases hq : getK F0 i with
    | some o =>
      obtain ⟨q, hq1, e2⟩ := List.mem_map.1 (getK_mem hq)
      exact hF q hq1 x hx (by rw [e2, e])
    | none =>
      rw [hq, getK_none (l := fam b L) (fun q hq => by have := fam_keys b L q hq; omega)] at hi
      cases hi
  · obtain ⟨h2, h3⟩ := hk d o1 nx' hn hpo
    refine ⟨fun q hq x hx => ?_, h3⟩
    rcases List.mem_append.1 hq with h | h
    · exact (h2 x hx).2 q h
    · have := (h2 x hx).1
      have := fam_keys b L q h
      omega
/-- A call that is handed some objects, and a family. -/
theorem CallP.retS {P : Program} {Γ : Ctx} {s : St} {k : St → Prop} {dst : Option Tmp} {fop : Operand} {args : List Operand} {f caps} {ds : List D} {post : D → List (Nat × Ob) → Nat → Prop} (A F0 H : List (Nat × Ob)) (b : Nat) (L : List Ob) (hret : Ret P f ds (H ++ fam b L) s.next post)
    (hA : s.obs = A ++ fam b L) (h1 : ∀ i, getK A i = getK (F0 ++ H) i) (hF : ∀ q ∈ F0, (q.1 < b ∨ L.length + b ≤ q.1) ∧ ∀ x ∈ H, q.1 ≠ x.1)
    (hf : calleeOf (opd s fop) = some (f, caps)) (hc : callable P f = true) (hds : args.map (opd s) ++ caps = ds) (hp : putOK dst s)
    (hk : ∀ d o1 nx', s.next ≤ nx' → post d o1 nx' → k (({ s with obs := F0 ++ o1, next := nx' } : St).put dst d)) : CallP P Γ fop args dst s k := by
  refine CallP.retF F0 (H ++ fam b L) hret (fun i => ?_) (fun i ob hi => ?_) hf hc hds hp hk
  · rw [hA, getK_append, h1 i]
    simp only [getK_append]
    cases getK F0 i <;> cases getK H i <;> cases getK (fam b L) i <;> rfl
  · obtain ⟨q, hq1, e⟩ := List.mem_map.1 (getK_mem hi)
    obtain ⟨h2, h3⟩ := hF q hq1
    rw [getK_append, getK_none (l := H) (fun x hx h => h3 x hx (by rw [e, h])), getK_none (l := fam b L) (fun x hx => by have := fam_keys b L x hx; omega)]
    try rfl
theorem CallP_wk {P : Program} {Γ : Ctx} {s s' : St} {k : St → Prop} {dst : Option Tmp} {fop : Operand} {args : List Operand} (hw : Wk Γ s s') (h : CallP P Γ fop args dst s' k) : CallP P Γ fop args dst s k := fun ts ty pos after K a w hin hs =>
  let ⟨K', h1, h2⟩ := hw K a w hin hs
  h ts ty pos after K' a w h1 h2
/-- Nil cells of slices told as empty slices. -/
def normVOb : Ob → Ob
  | .vec e sz rows => .vec e sz (rows.map fun r => r.map normD)
  | ob => ob
def St.normV (s : St) : St := { s with obs := s.obs.map fun p => (p.1, normVOb p.2) }
theorem Wk.normV {Γ : Ctx} (s : St) : Wk Γ s s.normV := by
  intro k a w hin hs
  have ho : ∀ i ob, getK s.normV.obs i = some ob → ∃ ob0, getK s.obs i = some ob0 ∧ ob = normVOb ob0 := fun i ob hi => by
    have : getK (s.obs.map fun p => (p.1, normVOb p.2)) i = some ob := hi
    rw [getK_map (fun _ o => normVOb o)] at this
    cases hc : getK s.obs i with
    | none => rw [hc] at this; cases this
    | some o => rw [hc] at this; cases this; exact ⟨o, rfl, rfl⟩
  refine ⟨k, hin, ⟨⟨hs.sat.mem, fun i ob hi => ?_, fun i j x y g g' b hx hy hij => ?_⟩, hs.defers, hs.size, hs.env, hs.hdr⟩⟩
  · obtain ⟨ob0, h1, rfl⟩ := ho i ob hi
    obtain ⟨g, h2, h3, h4⟩ := hs.sat.ob i ob0 h1
    refine ⟨g, h2, h3, ?_⟩
    cases ob0 with
    | vec e sz rows =>
      obtain ⟨xs, h5, h6, h7, h8⟩ := h4
      refine ⟨xs, by simpa using h5, h6, fun r hr => ?_, fun i r hr j d hj => ?_⟩
      · obtain ⟨q, hq, rfl⟩ := List.mem_map.1 hr
        simpa using h7 q hq
      · rw [List.getElem?_map] at hr
        cases hc : rows[i]? with
        | none => rw [hc] at hr; cases hr
        | some q =>
          rw [hc] at hr
          cases hr
          rw [List.getElem?_map] at hj
          cases hd : q[j]? with
          | none => rw [hd] at hj; cases hj
          | some e => rw [hd] at hj; cases hj; exact ⟨(h8 i q hc j e hd).1, normD_rep (h8 i q hc j e hd).2⟩
    | box cs => exact h4
    | map kk ag es => exact h4
    | it => exact h4
  · obtain ⟨o1, h1, _⟩ := ho i x hx
    obtain ⟨o2, h2, _⟩ := ho j y hy
    exact hs.sat.apart i j o1 o2 g g' b h1 h2 hij
end Go.VL
