/- The calculus of values: what a call does not know of stays as it is, and bears its own numbers. -/
import Derived.Test.YtblmompdcammeaaVLz
set_option linter.all false
namespace Go.VL
open Go
theorem Ret.frame2 {P f ds obs nx post} (F : List (Nat × Ob)) (hF : ∀ i ob, getK F i = some ob → getK obs i = none) (h : Ret P f ds obs nx post) :
    Ret P f ds (F ++ obs) nx (fun d o n => ∃ o1, o = F ++ o1 ∧ (∀ i cs, getK F i = some (.box cs) → getK o1 i = none) ∧ post d o1 n) := by
  have h2 := h.frame F hF
  intro k own w vs hsat hhdr hfresh hrep
  -- once more, with what the call owns
  have hob : ∀ i ob, getK obs i = some ob → getK F i = none ∧ getK (F ++ obs) i = some ob := fun i ob hi => by
    have hn : getK F i = none := by
      cases hf : getK F i with
      | none => rfl
      | some x => rw [hF i x hf] at hi; cases hi
    exact ⟨hn, by rw [getK_append, hn]; exact hi⟩
  have hfo : ∀ i ob, getK F i = some ob → getK (F ++ obs) i = some ob := fun i ob hi => by rw [getK_append, hi]
  have hbf : ∀ b, Blk k F b → Blk k (F ++ obs) b := fun b ⟨i, ob, g, h1, h2, h3⟩ => ⟨i, ob, g, hfo i ob h1, h2, h3⟩
  have hsat' : Sat k (fun b => own b ∧ ¬ Blk k F b) obs w := by
    refine ⟨hsat.mem, fun i ob hi => ?_, fun i j x y g g' b hx hy hij => ?_⟩
    · obtain ⟨hn, hi'⟩ := hob i ob hi
      obtain ⟨g, h1, h2, h3⟩ := hsat.ob i ob hi'
      refine ⟨g, h1, fun b hb => ⟨⟨(h2 b hb).1, ?_⟩, (h2 b hb).2⟩, h3⟩
      rintro ⟨j, oj, g', h4, h5, h6⟩
      exact hsat.apart i j ob oj g g' b hi' (hfo j oj h4) (fun e => by subst e; rw [hn] at h4; cases h4) h1 h5 hb h6
    · exact hsat.apart i j x y g g' b (hob i x hx).2 (hob j y hy).2 hij
  have hh : Ret P f ds obs nx (fun d o n => post d o n ∧ True) := fun k own w vs a b c e => (h k own w vs a b c e).mono fun _ _ ⟨v, d, o, n, k', h1, h2, h3, h4, h5, h6, h7⟩ => ⟨v, d, o, n, k', h1, h2, h3, h4, h5, h6, h7, trivial⟩
  refine (h k _ w vs hsat' hhdr (fun b hb => ⟨hfresh b hb, fun hB => absurd (hsat.lt (hbf b hB)) (by omega)⟩) hrep).mono ?_
  rintro e w' ⟨v, d, o1, n', k', he, hin, hs1, hh1, hle, hr1, hp⟩
  have hFat : ∀ i ob, getK F i = some ob → ∃ g, k.hdr i = some g ∧ k'.hdr i = some g ∧ (∀ b, g.1 = some b → own b ∧ (∀ o, k'.mem b o = none) ∧ Blk k F b) ∧ ObAt k' w' g ob := fun i ob hi => by
    obtain ⟨g, h1, h2, h3⟩ := hsat.ob i ob (hfo i ob hi)
    have hB : ∀ b, g.1 = some b → Blk k F b := fun b hb => ⟨i, ob, g, hi, h1, hb⟩
    refine ⟨g, h1, hin.le.hdr i g h1, fun b hb => ⟨(h2 b hb).1, fun o => ?_, hB b hb⟩, h3.keep hin.le fun b hb => hin.block b fun hb' => hb'.2 (hB b hb)⟩
    cases hm : k'.mem b o with
    | none => rfl
    | some x =>
      rcases hin.memNew b o x hm with h4 | h4
      · have h4' : k.mem b o = some x := h4
        rw [(h2 b hb).2 o] at h4'; cases h4'
      · exact absurd (hB b hb) h4.2
  refine ⟨v, d, F ++ o1, n', k', he, ⟨hin.le, hin.none0, fun b o x hx => (hin.memNew b o x hx).imp id (·.1), hfresh, hin.os, hin.tape, hin.output, hin.size, fun b hb => hin.block b fun hb' => hb hb'.1⟩, ?_, hh1, hle, hr1, o1, rfl, fun i cs hi => ?_, hp⟩
  · refine ⟨hs1.mem, fun i ob hi => ?_, fun i j x y g g' b hx hy hij hg hg' hb => ?_⟩
    · rw [getK_append] at hi
      cases hf : getK F i with
      | some x =>
        rw [hf] at hi
        cases hi
        obtain ⟨g, _, h2, h3, h4⟩ := hFat i _ hf
        exact ⟨g, h2, fun b hb => ⟨(h3 b hb).1, (h3 b hb).2.1⟩, h4⟩
      | none =>
        rw [hf] at hi
        obtain ⟨g, h1, h2, h3⟩ := hs1.ob i ob hi
        exact ⟨g, h1, fun b hb => ⟨(h2 b hb).1.1, (h2 b hb).2⟩, h3⟩
    · rw [getK_append] at hx hy
      cases hfx : getK F i with
      | some x' =>
        obtain ⟨g1, k1, k2, k3, _⟩ := hFat i _ hfx
        rw [hg] at k2
        cases k2
        cases hfy : getK F j with
        | some y' =>
          obtain ⟨g2, l1, l2, l3, _⟩ := hFat j _ hfy
          rw [hg'] at l2
          cases l2
          exact hsat.apart i j x' y' g g' b (hfo i _ hfx) (hfo j _ hfy) hij k1 l1 hb
        | none =>
          rw [hfy] at hy
          obtain ⟨g2, l1, l2, _⟩ := hs1.ob j y hy
          rw [hg'] at l1
          cases l1
          exact fun e => (l2 b e).1.2 (k3 b hb).2.2
      | none =>
        rw [hfx] at hx
        cases hfy : getK F j with
        | some y' =>
          obtain ⟨g2, l1, l2, l3, _⟩ := hFat j _ hfy
          rw [hg'] at l2
          cases l2
          obtain ⟨g1, k1, k2, _⟩ := hs1.ob i x hx
          rw [hg] at k1
          cases k1
          exact fun e => (k2 b hb).1.2 (l3 b e).2.2
        | none =>
          rw [hfy] at hy
          exact hs1.apart i j x y g g' b hx hy hij hg hg' hb
  · cases ho : getK o1 i with
    | none => rfl
    | some ob =>
      exfalso
      obtain ⟨g, _, h2, h3, h4⟩ := hFat i _ hi
      obtain ⟨g', h5, h6, _⟩ := hs1.ob i ob ho
      rw [h2] at h5
      cases h5
      obtain ⟨b, _, _, hb, _⟩ := h4
      exact (h6 b hb).1.2 (h3 b hb).2.2
theorem CallP.retF2 {P : Program} {Γ : Ctx} {s : St} {k : St → Prop} {dst : Option Tmp} {fop : Operand} {args : List Operand} {f caps} {ds : List D} {post : D → List (Nat × Ob) → Nat → Prop} (F obs : List (Nat × Ob)) (hret : Ret P f ds obs s.next post)
    (heq : ∀ i, getK s.obs i = getK (F ++ obs) i) (hF : ∀ i ob, getK F i = some ob → getK obs i = none)
    (hf : calleeOf (opd s fop) = some (f, caps)) (hc : callable P f = true) (hds : args.map (opd s) ++ caps = ds) (hp : putOK dst s)
    (hk : ∀ d o1 nx', s.next ≤ nx' → (∀ i cs, getK F i = some (.box cs) → getK o1 i = none) → post d o1 nx' → k (({ s with obs := F ++ o1, next := nx' } : St).put dst d)) : CallP P Γ fop args dst s k :=
  CallP.ret_ ((hret.frame2 F hF).congr heq) hf hc hds hp fun d o n hn ⟨o1, ho, h1, hpo⟩ => by subst ho; exact hk d o1 n hn h1 hpo
theorem getK_frzO (obs : List (Nat × Ob)) (i : Nat) (us : List (List U)) (js : List Nat) (x : Nat) : getK ((del obs i).map fun p => if js.contains p.1 then (p.1, frzOb i us p.2) else p) x =
    if x = i then none else (getK obs x).map fun ob => if js.contains x then frzOb i us ob else ob := by
  have e : ((del obs i).map fun p => if js.contains p.1 then (p.1, frzOb i us p.2) else p) = (del obs i).map fun p => (p.1, if js.contains p.1 then frzOb i us p.2 else p.2) := by
    apply List.map_congr_left
    intro p _
    split <;> rfl
  rw [e, getK_map (fun x (o : Ob) => if js.contains x then frzOb i us o else o), getK_del]
  by_cases hx : x = i
  · rw [if_pos hx, if_pos hx]; rfl
  · rw [if_neg hx, if_neg hx]
theorem frz_obs (s : St) (i : Nat) (us : List (List U)) (js : List Nat) (x : Nat) : getK (s.frz i us js).obs x = if x = i then none else (getK s.obs x).map fun ob => if js.contains x then frzOb i us ob else ob := getK_frzO s.obs i us js x
theorem frz_env (s : St) (i : Nat) (us : List (List U)) (js : List Nat) (x : Nat) : getK (s.frz i us js).env x = (getK s.env x).map (VL.frz i us) := getK_map (fun _ d => VL.frz i us d) s.env x
-- nil slices told as empty ones, in slots and in variables
def norm1 : U → U
  | .nil => .sl []
  | x => x
def normU : U → U
  | .nil => .sl []
  | .agg cs => .agg (cs.map norm1)
  | x => x
def normD : D → D
  | .u x => .u (normU x)
  | d => d
def normOb : Ob → Ob
  | .box cs => .box (cs.map normD)
  | ob => ob
def St.norm (s : St) : St := { s with env := s.env.map fun p => (p.1, normD p.2), obs := s.obs.map fun p => (p.1, normOb p.2) }
theorem getK_normO (obs : List (Nat × Ob)) (x : Nat) : getK (obs.map fun p => (p.1, normOb p.2)) x = (getK obs x).map normOb := getK_map (fun _ o => normOb o) obs x
theorem norm_obs (s : St) (x : Nat) : getK s.norm.obs x = (getK s.obs x).map normOb := getK_normO s.obs x
theorem norm_env (s : St) (x : Nat) : getK s.norm.env x = (getK s.env x).map normD := getK_map (fun _ d => normD d) s.env x
theorem norm1_rep {m : Mem} {x : U} {v : Value} (h : RepU m x v) : RepU m (norm1 x) v := by
  cases h with
  | nil => exact .slE none 0 fun _ => rfl
  | int k n => exact .int k n
  | bool b => exact .bool b
  | str l => exact .str l
  | oth v => exact .oth v
  | slE a c h => exact .slE a c h
  | sl rows b o sz c f h1 h2 h3 h4 h5 => exact .sl rows b o sz c f h1 h2 h3 h4 h5
  | row cells off b o f h1 h2 => exact .row cells off b o f h1 h2
  | agg cells vs h1 h2 => exact .agg cells vs h1 h2
theorem normU_rep {m : Mem} {x : U} {v : Value} (h : RepU m x v) : RepU m (normU x) v := by
  cases h with
  | nil => exact .slE none 0 fun _ => rfl
  | int k n => exact .int k n
  | bool b => exact .bool b
  | str l => exact .str l
  | oth v => exact .oth v
  | slE a c h => exact .slE a c h
  | sl rows b o sz c f h1 h2 h3 h4 h5 => exact .sl rows b o sz c f h1 h2 h3 h4 h5
  | row cells off b o f h1 h2 => exact .row cells off b o f h1 h2
  | agg cells vs h1 h2 =>
    refine .agg _ vs (by simpa using h1) fun j u hj => ?_
    rw [List.getElem?_map] at hj
    cases hc : cells[j]? with
    | none => rw [hc] at hj; cases hj
    | some e => rw [hc] at hj; cases hj; exact norm1_rep (h2 j e hc)
theorem normD_rep {k : Kr} {d : D} {v : Value} (h : Rep k d v) : Rep k (normD d) v := by
  cases h with
  | u x v h => exact .u _ _ (normU_rep h)
  | any v => exact .any v
  | ptr i off b c h => exact .ptr i off b c h
  | vec i len h hh => exact .vec i len h hh
  | elt i sz idx off b c h => exact .elt i sz idx off b c h
  | fnc f caps vs hl hr => exact .fnc f caps vs hl hr
  | agg cells vs hl hr => exact .agg cells vs hl hr
  | tup cells vs hl hr => exact .tup cells vs hl hr
theorem Wk.norm {Γ : Ctx} (s : St) : Wk Γ s s.norm := by
  intro k a w hin hs
  have ho : ∀ i ob, getK s.norm.obs i = some ob → ∃ ob0, getK s.obs i = some ob0 ∧ ob = normOb ob0 := fun i ob hi => by
    have : getK (s.obs.map fun p => (p.1, normOb p.2)) i = some ob := hi
    rw [getK_map (fun _ o => normOb o)] at this
    cases hc : getK s.obs i with
    | none => rw [hc] at this; cases this
    | some o => rw [hc] at this; cases this; exact ⟨o, rfl, rfl⟩
  refine ⟨k, hin, ⟨⟨hs.sat.mem, fun i ob hi => ?_, fun i j x y g g' b hx hy hij => ?_⟩, hs.defers, hs.size, fun x d hx => ?_, hs.hdr⟩⟩
  · obtain ⟨ob0, h1, rfl⟩ := ho i ob hi
    obtain ⟨g, h2, h3, h4⟩ := hs.sat.ob i ob0 h1
    refine ⟨g, h2, h3, ?_⟩
    cases ob0 with
    | box cs =>
      obtain ⟨b, vs, t, e, h5, h6, h7⟩ := h4
      refine ⟨b, vs, t, e, h5, by simpa using h6, fun j d hj => ?_⟩
      rw [List.getElem?_map] at hj
      cases hc : cs[j]? with
      | none => rw [hc] at hj; cases hj
      | some e => rw [hc] at hj; cases hj; exact ⟨(h7 j e hc).1, normD_rep (h7 j e hc).2⟩
    | vec e sz rows => exact h4
  · obtain ⟨o1, h1, _⟩ := ho i x hx
    obtain ⟨o2, h2, _⟩ := ho j y hy
    exact hs.sat.apart i j o1 o2 g g' b h1 h2 hij
  · have hx' : getK (s.env.map fun p => (p.1, normD p.2)) x = some d := hx
    rw [getK_map (fun _ d => normD d)] at hx'
    cases hc : getK s.env x with
    | none => rw [hc] at hx'; cases hx'
    | some e => rw [hc] at hx'; cases hx'; exact ⟨(hs.env x e hc).1, normD_rep (hs.env x e hc).2⟩
end Go.VL
