/- Calls that are lent objects and whose results that are no scalars are forgotten: the objects stay. -/
import Derived.Test.YtdkadmchdocjbaaVLQ
set_option linter.all false
set_option maxRecDepth 100000
set_option maxHeartbeats 8000000
set_option linter.all false
namespace Go.VL
open Go
def maskD : D → D
  | .u x => if scalarU x then .u x else .any
  | .tup ds => .tup (ds.map fun d => maskD d)
  | _ => .any
theorem Rep.mask {k k' : Kr} : ∀ {d : D} {v : Value}, Rep k d v → Rep k' (maskD d) v
  | .u x, v, h => by
    rw [maskD]
    split
    · rename_i hs
      cases h with | u _ _ h => exact .u _ _ (h.scalar hs)
    · exact .any v
  | .tup ds, v, h => by
    obtain ⟨vs, hl, rfl, hr⟩ := rep_tup h
    rw [maskD]
    refine .tup _ vs (by simpa using hl) fun j d hj => ?_
    rw [List.getElem?_map] at hj
    cases hq : ds[j]? with
    | none => rw [hq] at hj; cases hj
    | some d' =>
      rw [hq] at hj
      cases hj
      have hm := List.mem_of_getElem? hq
      exact Rep.mask (hr j d' hq)
  | .any, v, _ => by simp only [maskD]; exact .any v
  | .ptr .., v, _ => by simp only [maskD]; exact .any v
  | .vec .., v, _ => by simp only [maskD]; exact .any v
  | .elt .., v, _ => by simp only [maskD]; exact .any v
  | .mp .., v, _ => by simp only [maskD]; exact .any v
  | .fnc .., v, _ => by simp only [maskD]; exact .any v
  | .agg .., v, _ => by simp only [maskD]; exact .any v
termination_by d => SizeOf.sizeOf d
decreasing_by
  simp_wf
  have := List.sizeOf_lt_of_mem hm
  omega
theorem callFun_mask {P Γ s} {fop : Operand} {args : Array Operand} {ts : Array TypeId} {ty : TypeId} {f caps dst pos after guard} {ds : List D} {L : List Nat} {post : D → Prop}
    (hf : calleeOf (opd s fop) = some (f, caps)) (hc : callable P f = true) (hds : argsV s (args.toList.map (opd s) ++ caps) = some (ds, L)) (hret : Fun P f ds post)
    {K : Kr} {a : Act} {w : World} (hin : In Γ K w) (hs : Sim K Γ.own s a w) {Kont : Act → World → Prop} {Q : Exit → Act → World → Prop}
    (hK : ∀ v d w', In Γ K w' → Sat K Γ.own s.obs w' → Rep K (maskD d) v → post d → Kont (a.put dst v) w') :
    Oper.wp P { dst, op := .call { callee := .value fop, args, argTypes := ts }, type := ty, pos, after, guard } a w Kont Q := by
  obtain ⟨vs, hrep, hrun⟩ := call_run hs (args := args) (ts := ts) (ty := ty) hf hc dst pos after guard
  obtain ⟨h1, h2, hLo⟩ := argsV_rep hs L (fun _ => none) (vs := vs.toList) hds (by simpa using hrep.1.symm) (fun j d hj => by simpa using hrep.2 j d hj) (fun _ h => h)
  unfold Oper.wp
  rw [hrun]
  have hsat1 : Sat ⟨lentMem K L w, fun _ => none, lent_glob hs L⟩ (fun b => w.heap.size ≤ b) [] w := ⟨fun b o v hv => by
      simp only [lentMem] at hv
      split at hv
      · exact hv
      · exact hs.sat.mem b o v hv, fun i ob hi => by simp [VL.getK] at hi, fun i j x y h g b hx => by simp [VL.getK] at hx⟩
  refine Calls.mono (hret ⟨lentMem K L w, fun _ => none, lent_glob hs L⟩ (fun b => w.heap.size ≤ b) w vs hsat1 (fun _ _ => rfl) (fun b hb => hb) ⟨by simpa using h1.symm, fun j d hj => by simpa using h2 j d hj⟩) ?_
  rintro e w' ⟨v, d, obs', nx', k', rfl, hin', hsat', hhdr', hnx, hr, hpure, hpost⟩
  have hheap : ∀ b, b < w.heap.size → w'.heap[b]? = w.heap[b]? := fun b hb => hin'.block b (by simpa [Ctx.of] using hb)
  have hin2 : In Γ K w' := hin.step (.refl _) (fun b o v e => .inl e) hin'.os hin'.tape hin'.output hin'.size fun b hb => by
    rcases Nat.lt_or_ge b w.heap.size with h | h
    · exact hheap b h
    · exact absurd (hin.own_of_ge h) hb
  have hsat2 : Sat K Γ.own s.obs w' := hs.sat.keep (.refl _) (fun b hb => hheap b (hs.sat.lt hb)) (fun b o v hv => by
    rw [cell_of_heap (hheap b (hs.sat.memLt hv))]
    exact hs.sat.mem b o v hv) (fun b ⟨i, ob, g, h3, h4, h5⟩ o => by
    obtain ⟨g', h6, h7, _⟩ := hs.sat.ob i ob h3
    rw [h4] at h6
    cases h6
    exact (h7 b h5).2 o)
  exact hK v d w' hin2 hsat2 hr.mask hpost
theorem Eff.callFunM {P Γ s k} {fop : Operand} {args : Array Operand} {ts : Array TypeId} {ty : TypeId} {f caps dst pos after} {ds : List D} {L : List Nat} {post : D → Prop}
    (hf : calleeOf (opd s fop) = some (f, caps)) (hc : callable P f = true) (hds : argsV s (args.toList.map (opd s) ++ caps) = some (ds, L)) (hret : Fun P f ds post) (hp : putOK dst s)
    (hk : ∀ d, post d → k (s.put dst (maskD d))) :
    Eff P Γ { dst, op := .call { callee := .value fop, args, argTypes := ts }, type := ty, pos, after, guard := none } s k := by
  intro K a w hin hs Kont Q hK
  refine callFun_mask hf hc hds hret hin hs fun v d w' h1 h4 h5 h6 => ?_
  have hsim : Sim K Γ.own s a w' := ⟨h4, hs.defers, hs.size, fun x d hx => hs.env x d hx, fun i hi => hs.hdr i hi⟩
  exact hK K _ w' _ h1 (hsim.put (by cases dst <;> simp_all [putOK]) h5) (hk d h6)
section
variable {P : Program} {Γ : Ctx} {s : St} {k : St → Prop} {dst : Option Tmp}
theorem CallP.funM {fop : Operand} {args : List Operand} {f caps} {ds : List D} {L : List Nat} {post : D → Prop} (hret : Fun P f ds post)
    (hf : calleeOf (opd s fop) = some (f, caps)) (hc : callable P f = true) (hds : argsV s (args.map (opd s) ++ caps) = some (ds, L)) (hp : putOK dst s)
    (hk : ∀ d, post d → k (s.put dst (maskD d))) : CallP P Γ fop args dst s k :=
  fun _ _ _ _ => Eff.p (Eff.callFunM hf hc hds hret hp hk)
end
end Go.VL
