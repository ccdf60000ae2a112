/- The calculus of values: calls that may end in a panic; what a function puts off; what recovers. -/
import Derived.Test.YtdkadmchdocjbaaVLV
import Derived.Test.YtdkadmchdocjbaaVLR
import Derived.Recover
set_option linter.all false
set_option maxRecDepth 100000
set_option maxHeartbeats 8000000
set_option linter.all false
namespace Go.VL
open Go

/-- How a call ends: a value, or a panic. -/
inductive Out where
  | val (d : D)
  | pan (ch : List PanicEntry)
def OutRep (k : Kr) (e : Ending) : Out → Prop
  | .val d => ∃ v, e = .returned v ∧ Rep k d v
  | .pan ch => e = .panicked ch
/-- What a call gives back, or how it panics. -/
def RetX (P : Program) (f : FuncId) (ds : List D) (obs : List (Nat × Ob)) (nx : Nat) (post : Out → List (Nat × Ob) → Nat → Prop) : Prop :=
  ∀ (k : Kr) (own : Nat → Prop) (w : World) (vs : Array Value), Sat k own obs w → (∀ i, nx ≤ i → k.hdr i = none) → (∀ b, w.heap.size ≤ b → own b) → RepL k ds vs →
    Calls P f vs w fun e w' => ∃ r obs' nx' k', OutRep k' e r ∧ In (.of own k nx w) k' w' ∧ Sat k' own obs' w' ∧ (∀ i, nx' ≤ i → k'.hdr i = none) ∧ nx ≤ nx' ∧ post r obs' nx'
theorem Ret.x {P f ds obs nx post} (h : Ret P f ds obs nx post) : RetX P f ds obs nx fun r o n => match r with | .val d => post d o n | .pan _ => False :=
  fun k own w vs h1 h2 h3 h4 => (h k own w vs h1 h2 h3 h4).mono fun _ _ ⟨v, d, o, n, k', e, a, b, c, g, r, hp⟩ => ⟨.val d, o, n, k', ⟨v, e, r⟩, a, b, c, g, hp⟩
theorem RetX.mono {P f ds obs nx} {p q : Out → List (Nat × Ob) → Nat → Prop} (h : RetX P f ds obs nx p) (hq : ∀ r o n, p r o n → q r o n) : RetX P f ds obs nx q :=
  fun k own w vs h1 h2 h3 h4 => (h k own w vs h1 h2 h3 h4).mono fun _ _ ⟨r, o, n, k', e, a, b, c, g, hp⟩ => ⟨r, o, n, k', e, a, b, c, g, hq _ _ _ hp⟩
theorem RetX.ret {P f ds obs nx} {p : Out → List (Nat × Ob) → Nat → Prop} {q : D → List (Nat × Ob) → Nat → Prop} (h : RetX P f ds obs nx p) (hv : ∀ d o n, p (.val d) o n → q d o n) (hx : ∀ ch o n, ¬ p (.pan ch) o n) : Ret P f ds obs nx q :=
  fun k own w vs h1 h2 h3 h4 => (h k own w vs h1 h2 h3 h4).mono fun _ _ ⟨r, o, n, k', e, a, b, c, g, hp⟩ => by
    cases r with
    | val d =>
      obtain ⟨v, e, hr⟩ := e
      exact ⟨v, d, o, n, k', e, a, b, c, g, hr, hv d o n hp⟩
    | pan ch => exact absurd hp (hx ch o n)
theorem RetX.congr {P f ds obs obs' nx post} (h : RetX P f ds obs nx post) (e : ∀ i, getK obs' i = getK obs i) : RetX P f ds obs' nx post :=
  fun k own w vs hsat hhdr hfresh hrep => h k own w vs (Sat.congr hsat fun i => (e i).symm) hhdr hfresh hrep

/-- What a call does not know of stays as it is: the memory behind it. -/
theorem frame_sat {k k' : Kr} {own : Nat → Prop} {obs F o1 : List (Nat × Ob)} {nx : Nat} {w w' : World} (hsat : Sat k own (F ++ obs) w)
    (hin : In (.of (fun b => own b ∧ ¬ Blk k F b) k nx w) k' w') (hs1 : Sat k' (fun b => own b ∧ ¬ Blk k F b) o1 w') : Sat k' own (F ++ o1) w' := by
  have hfo : ∀ i ob, getK F i = some ob → getK (F ++ obs) i = some ob := fun i ob hi => by rw [getK_append, hi]
  have hFat : ∀ i ob, getK F i = some ob → ∃ g, k.hdr i = some g ∧ k'.hdr i = some g ∧ (∀ b, g.1 = some b → own b ∧ (∀ o, k'.mem b o = none) ∧ Blk k F b) ∧ ObAt k' w' g ob := fun i ob hi => by
    obtain ⟨g, h1, h2, h3⟩ := hsat.ob i ob (hfo i ob hi)
    have hB : ∀ b, g.1 = some b → Blk k F b := fun b hb => ⟨i, ob, g, hi, h1, hb⟩
    refine ⟨g, h1, hin.le.hdr i g h1, fun b hb => ⟨(h2 b hb).1, fun o => ?_, hB b hb⟩, h3.keep hin.le fun b hb => hin.block b fun hb' => hb'.2 (hB b hb)⟩
    cases hm : k'.mem b o with
    | none => rfl
    | some x =>
      rcases hin.memNew b o x hm with h4 | h4
      · have h4' : k.mem b o = some x := h4
        rw [(h2 b hb).2 o] at h4'; cases h4'
      · exact absurd (hB b hb) h4.2
  refine ⟨hs1.mem, fun i ob hi => ?_, fun i j x y g g' b hx hy hij hg hg' hb => ?_⟩
  · rw [getK_append] at hi
    cases hf : getK F i with
    | some x =>
      rw [hf] at hi
      cases hi
      obtain ⟨g, _, h2, h3, h4⟩ := hFat i _ hf
      exact ⟨g, h2, fun b hb => ⟨(h3 b hb).1, (h3 b hb).2.1⟩, h4⟩
    | none =>
      rw [hf] at hi
      obtain ⟨g, h1, h2, h3⟩ := hs1.ob i ob hi
      exact ⟨g, h1, fun b hb => ⟨(h2 b hb).1.1, (h2 b hb).2⟩, h3⟩
  · rw [getK_append] at hx hy
    cases hfx : getK F i with
    | some x' =>
      obtain ⟨g1, k1, k2, k3, _⟩ := hFat i _ hfx
      rw [hg] at k2
      cases k2
      cases hfy : getK F j with
      | some y' =>
        obtain ⟨g2, l1, l2, l3, _⟩ := hFat j _ hfy
        rw [hg'] at l2
        cases l2
        exact hsat.apart i j x' y' g g' b (hfo i _ hfx) (hfo j _ hfy) hij k1 l1 hb
      | none =>
        rw [hfy] at hy
        obtain ⟨g2, l1, l2, _⟩ := hs1.ob j y hy
        rw [hg'] at l1
        cases l1
        exact fun e => (l2 b e).1.2 (k3 b hb).2.2
    | none =>
      rw [hfx] at hx
      cases hfy : getK F j with
      | some y' =>
        obtain ⟨g2, l1, l2, l3, _⟩ := hFat j _ hfy
        rw [hg'] at l2
        cases l2
        obtain ⟨g1, k1, k2, _⟩ := hs1.ob i x hx
        rw [hg] at k1
        cases k1
        exact fun e => (k2 b hb).1.2 (l3 b e).2.2
      | none =>
        rw [hfy] at hy
        exact hs1.apart i j x y g g' b hx hy hij hg hg' hb
theorem frame_sat0 {k : Kr} {own : Nat → Prop} {obs F : List (Nat × Ob)} {w : World} (hF : ∀ i ob, getK F i = some ob → getK obs i = none) (hsat : Sat k own (F ++ obs) w) : Sat k (fun b => own b ∧ ¬ Blk k F b) obs w := by
  have hob : ∀ i ob, getK obs i = some ob → getK F i = none ∧ getK (F ++ obs) i = some ob := fun i ob hi => by
    have hn : getK F i = none := by
      cases hf : getK F i with
      | none => rfl
      | some x => rw [hF i x hf] at hi; cases hi
    exact ⟨hn, by rw [getK_append, hn]; exact hi⟩
  have hfo : ∀ i ob, getK F i = some ob → getK (F ++ obs) i = some ob := fun i ob hi => by rw [getK_append, hi]
  refine ⟨hsat.mem, fun i ob hi => ?_, fun i j x y g g' b hx hy hij => ?_⟩
  · obtain ⟨hn, hi'⟩ := hob i ob hi
    obtain ⟨g, h1, h2, h3⟩ := hsat.ob i ob hi'
    refine ⟨g, h1, fun b hb => ⟨⟨(h2 b hb).1, ?_⟩, (h2 b hb).2⟩, h3⟩
    rintro ⟨j, oj, g', h4, h5, h6⟩
    exact hsat.apart i j ob oj g g' b hi' (hfo j oj h4) (fun e => by subst e; rw [hn] at h4; cases h4) h1 h5 hb h6
  · exact hsat.apart i j x y g g' b (hob i x hx).2 (hob j y hy).2 hij
theorem frame_fresh {k : Kr} {own : Nat → Prop} {obs F : List (Nat × Ob)} {w : World} (hsat : Sat k own (F ++ obs) w) (hfresh : ∀ b, w.heap.size ≤ b → own b) : ∀ b, w.heap.size ≤ b → own b ∧ ¬ Blk k F b := fun b hb => by
  refine ⟨hfresh b hb, fun hB => ?_⟩
  obtain ⟨i, ob, g, h1, h2, h3⟩ := hB
  exact absurd (hsat.lt ⟨i, ob, g, by rw [getK_append, h1], h2, h3⟩) (by omega)
theorem frame_in {k k' : Kr} {own : Nat → Prop} {F : List (Nat × Ob)} {nx : Nat} {w w' : World} (hfresh : ∀ b, w.heap.size ≤ b → own b) (hin : In (.of (fun b => own b ∧ ¬ Blk k F b) k nx w) k' w') : In (.of own k nx w) k' w' :=
  ⟨hin.le, hin.none0, fun b o x hx => (hin.memNew b o x hx).imp id (·.1), hfresh, hin.os, hin.tape, hin.output, hin.size, fun b hb => hin.block b fun hb' => hb hb'.1⟩
theorem RetX.frame {P f ds obs nx post} (F : List (Nat × Ob)) (hF : ∀ i ob, getK F i = some ob → getK obs i = none) (h : RetX P f ds obs nx post) :
    RetX P f ds (F ++ obs) nx (fun r o n => ∃ o1, o = F ++ o1 ∧ post r o1 n) := by
  intro k own w vs hsat hhdr hfresh hrep
  refine (h k _ w vs (frame_sat0 hF hsat) hhdr (frame_fresh hsat hfresh) hrep).mono ?_
  rintro e w' ⟨r, o1, n', k', he, hin, hs1, hh1, hle, hp⟩
  exact ⟨r, F ++ o1, n', k', he, frame_in hfresh hin, frame_sat hsat hin hs1, hh1, hle, o1, rfl, hp⟩

/-- A call that may panic, by what it does to the objects. -/
theorem EffP.callX {P Γ s k} {fop : Operand} {args : Array Operand} {ts : Array TypeId} {ty : TypeId} {f caps dst pos after} {ds : List D} {post : Out → List (Nat × Ob) → Nat → Prop}
    (hf : calleeOf (opd s fop) = some (f, caps)) (hc : callable P f = true) (hds : args.toList.map (opd s) ++ caps = ds) (hret : RetX P f ds s.obs s.next post) (hp : putOK dst s)
    (hk : ∀ d obs' nx', s.next ≤ nx' → post (.val d) obs' nx' → k (({ s with obs := obs', next := nx' } : St).put dst d))
    (hx : ∀ ch obs' nx', s.next ≤ nx' → post (.pan ch) obs' nx' → ∃ s2, Wk Γ { s with obs := obs', next := nx' } s2 ∧ Γ.pan ch s2) :
    EffP P Γ { dst, op := .call { callee := .value fop, args, argTypes := ts }, type := ty, pos, after, guard := none } s k := by
  intro K a w hin hs Kont Q hK hP
  obtain ⟨vs, hrep, hrun⟩ := call_run hs (args := args) (ts := ts) (ty := ty) hf hc dst pos after none
  rw [hds] at hrep
  unfold Oper.wp
  rw [hrun]
  refine Calls.mono (hret K Γ.own w vs hs.sat hs.hdr (fun b hb => hin.own_of_ge hb) hrep) ?_
  rintro e w' ⟨r, obs', nx', k', hr, hin', hsat', hhdr', hnx, hpost⟩
  have hle : K.le k' := hin'.le
  have hin2 : In Γ k' w' := hin.step hle (fun b o v e => hin'.memNew b o v e) hin'.os hin'.tape hin'.output hin'.size hin'.block
  have hsim : Sim k' Γ.own ({ s with obs := obs', next := nx' } : St) a w' := ⟨hsat', hs.defers, hs.size, fun x d hx => ⟨(hs.env x d hx).1, (hs.env x d hx).2.mono hle⟩, hhdr'⟩
  cases r with
  | val d =>
    obtain ⟨v, rfl, hr⟩ := hr
    exact hK k' _ w' _ hin2 (hsim.put (by cases dst <;> simp_all [putOK]) hr) (hk d obs' nx' hnx hpost)
  | pan ch =>
    obtain rfl := hr
    obtain ⟨s2, hw, hpn⟩ := hx ch obs' nx' hnx hpost
    obtain ⟨k2, g1, g2⟩ := hw k' a w' hin2 hsim
    exact hP ch k2 a w' s2 g1 g2 hpn
theorem CallP.x_ {P : Program} {Γ : Ctx} {s : St} {k : St → Prop} {dst : Option Tmp} {fop : Operand} {args : List Operand} {f caps} {ds : List D} {post : Out → List (Nat × Ob) → Nat → Prop} (hret : RetX P f ds s.obs s.next post)
    (hf : calleeOf (opd s fop) = some (f, caps)) (hc : callable P f = true) (hds : args.map (opd s) ++ caps = ds) (hp : putOK dst s)
    (hk : ∀ d obs' nx', s.next ≤ nx' → post (.val d) obs' nx' → k (({ s with obs := obs', next := nx' } : St).put dst d))
    (hx : ∀ ch obs' nx', s.next ≤ nx' → post (.pan ch) obs' nx' → ∃ s2, Wk Γ { s with obs := obs', next := nx' } s2 ∧ Γ.pan ch s2) : CallP P Γ fop args dst s k :=
  fun _ _ _ _ => EffP.callX hf hc hds hret hp hk hx
theorem CallP.xF {P : Program} {Γ : Ctx} {s : St} {k : St → Prop} {dst : Option Tmp} {fop : Operand} {args : List Operand} {f caps} {ds : List D} {post : Out → List (Nat × Ob) → Nat → Prop} (F obs : List (Nat × Ob)) (hret : RetX P f ds obs s.next post)
    (heq : ∀ i, getK s.obs i = getK (F ++ obs) i) (hF : ∀ i ob, getK F i = some ob → getK obs i = none)
    (hf : calleeOf (opd s fop) = some (f, caps)) (hc : callable P f = true) (hds : args.map (opd s) ++ caps = ds) (hp : putOK dst s)
    (hk : ∀ d o1 nx', s.next ≤ nx' → post (.val d) o1 nx' → k (({ s with obs := F ++ o1, next := nx' } : St).put dst d))
    (hx : ∀ ch o1 nx', s.next ≤ nx' → post (.pan ch) o1 nx' → ∃ s2, Wk Γ { s with obs := F ++ o1, next := nx' } s2 ∧ Γ.pan ch s2) : CallP P Γ fop args dst s k :=
  CallP.x_ ((hret.frame F hF).congr heq) hf hc hds hp (fun d o n hn ⟨o1, ho, hpo⟩ => by subst ho; exact hk d o1 n hn hpo) (fun ch o n hn ⟨o1, ho, hpo⟩ => by subst ho; exact hx ch o1 n hn hpo)
theorem CallP.x0 {P : Program} {Γ : Ctx} {s : St} {k : St → Prop} {dst : Option Tmp} {fop : Operand} {args : List Operand} {f caps} {ds : List D} {post : Out → List (Nat × Ob) → Nat → Prop} (hret : RetX P f ds [] s.next post)
    (hf : calleeOf (opd s fop) = some (f, caps)) (hc : callable P f = true) (hds : args.map (opd s) ++ caps = ds) (hp : putOK dst s)
    (hk : ∀ d o1 nx', s.next ≤ nx' → post (.val d) o1 nx' → k (({ s with obs := s.obs ++ o1, next := nx' } : St).put dst d))
    (hx : ∀ ch o1 nx', s.next ≤ nx' → post (.pan ch) o1 nx' → ∃ s2, Wk Γ { s with obs := s.obs ++ o1, next := nx' } s2 ∧ Γ.pan ch s2) : CallP P Γ fop args dst s k :=
  CallP.xF s.obs [] hret (fun i => by simp) (fun i ob _ => rfl) hf hc hds hp hk hx
theorem CallP.x1 {P : Program} {Γ : Ctx} {s : St} {k : St → Prop} {dst : Option Tmp} {fop : Operand} {args : List Operand} {f caps} {ds : List D} {post : Out → List (Nat × Ob) → Nat → Prop} {j : Nat} {ob : Ob} (hret : RetX P f ds [(j, ob)] s.next post)
    (hj : getK s.obs j = some ob) (hf : calleeOf (opd s fop) = some (f, caps)) (hc : callable P f = true) (hds : args.map (opd s) ++ caps = ds) (hp : putOK dst s)
    (hk : ∀ d o1 nx', s.next ≤ nx' → post (.val d) o1 nx' → k (({ s with obs := del s.obs j ++ o1, next := nx' } : St).put dst d))
    (hx : ∀ ch o1 nx', s.next ≤ nx' → post (.pan ch) o1 nx' → ∃ s2, Wk Γ { s with obs := del s.obs j ++ o1, next := nx' } s2 ∧ Γ.pan ch s2) : CallP P Γ fop args dst s k :=
  CallP.xF (del s.obs j) [(j, ob)] hret (fun i => by
    rw [getK_append, getK_del]
    by_cases h : i = j
    · subst h; simp [hj, getK]
    · simp only [if_neg h, getK]
      cases getK s.obs i <;> rfl) (fun i o hi => by
    rw [getK_del] at hi
    by_cases h : i = j
    · rw [if_pos h] at hi; cases hi
    · simp [getK, h]) hf hc hds hp hk hx

/-- A call that is handed one object, and goes through, or panics. -/
theorem CallP.ok1 {P : Program} {Γ : Ctx} {s : St} {k : St → Prop} {dst : Option Tmp} {fop : Operand} {args : List Operand} {f caps} {ds : List D} {j : Nat} {ob ob' : Ob} {d : D}
    (hret : RetX P f ds [(j, ob)] s.next fun r o n => r = .val d ∧ o = [(j, ob')] ∧ n = s.next)
    (hj : getK s.obs j = some ob) (hf : calleeOf (opd s fop) = some (f, caps)) (hc : callable P f = true) (hds : args.map (opd s) ++ caps = ds) (hp : putOK dst s)
    (hk : k (({ s with obs := del s.obs j ++ [(j, ob')], next := s.next } : St).put dst d)) : CallP P Γ fop args dst s k :=
  CallP.x1 hret hj hf hc hds hp (fun d' o1 nx' _ ⟨h1, h2, h3⟩ => by cases h1; subst h2; subst h3; exact hk) (fun ch o1 nx' _ ⟨h1, _⟩ => by cases h1)
theorem CallP.pan1 {P : Program} {Γ : Ctx} {s : St} {k : St → Prop} {dst : Option Tmp} {fop : Operand} {args : List Operand} {f caps} {ds : List D} {j : Nat} {ob : Ob} {ch : List PanicEntry} {p : Ob → Prop}
    (hret : RetX P f ds [(j, ob)] s.next fun r o n => r = .pan ch ∧ (∃ ob', p ob' ∧ o = [(j, ob')]) ∧ n = s.next)
    (hj : getK s.obs j = some ob) (hf : calleeOf (opd s fop) = some (f, caps)) (hc : callable P f = true) (hds : args.map (opd s) ++ caps = ds) (hp : putOK dst s)
    (hx : ∀ ob', p ob' → ∃ s2, Wk Γ { s with obs := del s.obs j ++ [(j, ob')], next := s.next } s2 ∧ Γ.pan ch s2) : CallP P Γ fop args dst s k :=
  CallP.x1 hret hj hf hc hds hp (fun d' o1 nx' _ ⟨h1, _⟩ => by cases h1) (fun ch' o1 nx' _ ⟨h1, ⟨ob', h2, h3⟩, h4⟩ => by cases h1; subst h3; subst h4; exact hx ob' h2)
/-- The same, and a second object that is gone behind it. -/
theorem CallP.x2 {P : Program} {Γ : Ctx} {s : St} {k : St → Prop} {dst : Option Tmp} {fop : Operand} {args : List Operand} {f caps} {ds : List D} {post : Out → List (Nat × Ob) → Nat → Prop} {j q : Nat} {ob oq : Ob} (hret : RetX P f ds [(j, ob), (q, oq)] s.next post)
    (hj : getK s.obs j = some ob) (hq : getK s.obs q = some oq) (hne : j ≠ q) (hf : calleeOf (opd s fop) = some (f, caps)) (hc : callable P f = true) (hds : args.map (opd s) ++ caps = ds) (hp : putOK dst s)
    (hk : ∀ d o1 nx', s.next ≤ nx' → post (.val d) o1 nx' → k (({ s with obs := del (del s.obs j) q ++ o1, next := nx' } : St).put dst d))
    (hx : ∀ ch o1 nx', s.next ≤ nx' → post (.pan ch) o1 nx' → ∃ s2, Wk Γ { s with obs := del (del s.obs j) q ++ o1, next := nx' } s2 ∧ Γ.pan ch s2) : CallP P Γ fop args dst s k :=
  CallP.xF (del (del s.obs j) q) [(j, ob), (q, oq)] hret (fun i => by
    rw [getK_append, getK_del, getK_del]
    by_cases h : i = q
    · subst h; rw [if_pos rfl]; simp [getK, Ne.symm hne, hq]
    · rw [if_neg h]
      by_cases h2 : i = j
      · subst h2; simp [hj, getK]
      · simp only [if_neg h2, getK, if_neg h]
        cases getK s.obs i <;> rfl) (fun i o hi => by
    rw [getK_del, getK_del] at hi
    by_cases h : i = q
    · rw [if_pos h] at hi; cases hi
    · rw [if_neg h] at hi
      by_cases h2 : i = j
      · rw [if_pos h2] at hi; cases hi
      · simp [getK, h, h2]) hf hc hds hp hk hx

/-- The same call, nothing put off. -/
def Ctx.base (Γ : Ctx) : Ctx := .of Γ.own.own Γ.k0 Γ.n0 Γ.w0
/-- A panic, up to what the state may be told as. -/
def PanG (Γ : Ctx) (post : Out → List (Nat × Ob) → Nat → Prop) (ch : List PanicEntry) (s : St) : Prop := ∃ s', Wk Γ s s' ∧ Γ.n0 ≤ s'.next ∧ post (.pan ch) s'.obs s'.next
/-- What a call leaves behind. -/
def RX (Γ : Ctx) (post : Out → List (Nat × Ob) → Nat → Prop) (e : Ending) (w' : World) : Prop :=
  ∃ r obs' nx' k', OutRep k' e r ∧ In Γ k' w' ∧ Sat k' Γ.own obs' w' ∧ (∀ i, nx' ≤ i → k'.hdr i = none) ∧ Γ.n0 ≤ nx' ∧ post r obs' nx'
theorem endW_results {P Γ fn e s K a w} {post : Out → List (Nat × Ob) → Nat → Prop} (hend : EndW P Γ fn Γ.n0 (fun d o n => post (.val d) o n) e s) (hin : In Γ K w) (hs : Sim K Γ.own s a w) :
    ∃ v, (results fn a.tmps).run P w = .ok v w ∧ RX Γ post (.returned v) w := by
  obtain ⟨s', hw, _, hres⟩ := hend
  obtain ⟨K', hin, hs⟩ := hw K a w hin hs
  obtain ⟨rs, rv, hfin, hrun, hlen, hr⟩ := resD_run hs _ _ hres
  have hres' : (results fn a.tmps).run P w = .ok (if h : rv.toArray.size = 1 then rv.toArray[0] else .tuple rv.toArray) w := by
    unfold results
    rw [Array.mapM_eq_mapM_toList]
    have e : (fn.results.toList.mapM fun (x : ResultVar) => match x with | .tmp t => (pure (a.tmps.getD t undef) : Sem Value) | .cell x t => do loadVar t (← asAddr (a.tmps.getD x undef))).run P w = .ok rv w := hrun
    simp only [Sem.run_bind, Sem.run_map, Result.andThen_ok]
    erw [e]
    simp
  have hrepv : Rep K' (oneOrTup rs) (if h : rv.toArray.size = 1 then rv.toArray[0] else .tuple rv.toArray) := by
    match rs, rv, hlen, hr with
    | [], [], _, hr => exact .tup [] [] rfl (by simp)
    | [d], [v], _, hr => simpa [oneOrTup] using hr 0 d rfl
    | d :: d1 :: ds, v :: v1 :: vs, hlen, hr =>
      simp only [oneOrTup]
      rw [dif_neg (by simp)]
      exact .tup _ _ hlen hr
  refine ⟨_, hres', ?_⟩
  rcases hfin with ⟨s2, ρ, d', hle, hd, hu, hnx, hpost⟩ | ⟨hnx, hpost⟩
  · obtain ⟨h1, h2⟩ := Sim.weak hin hs hle
    exact ⟨.val d', s2.obs, s2.next, _, ⟨_, rfl, hrepv.weak hd hu⟩, h1, h2.sat, h2.hdr, hnx, hpost⟩
  · exact ⟨.val _, s'.obs, s'.next, K', ⟨_, rfl, hrepv⟩, hin, hs.sat, hs.hdr, hnx, hpost⟩
theorem RX.conv {Γ Γ' : Ctx} {post e w'} (h : RX Γ post e w') (h1 : Γ'.own.own = Γ.own.own) (h2 : Γ'.k0 = Γ.k0) (h3 : Γ'.n0 = Γ.n0) (h4 : Γ'.w0 = Γ.w0) : RX Γ' post e w' := by
  obtain ⟨r, o, n, k', a, b, c, d, e, f⟩ := h
  exact ⟨r, o, n, k', a, b.conv h1 h2 h3 h4, by rw [h1]; exact c, d, by rw [h3]; exact e, f⟩
theorem Wk.conv {Γ Γ' : Ctx} {s s'} (h : Wk Γ s s') (h1 : Γ'.own = Γ.own) (h2 : Γ'.k0 = Γ.k0) (h3 : Γ'.n0 = Γ.n0) (h4 : Γ'.w0 = Γ.w0) : Wk Γ' s s' := fun K a w hin hs => by
  obtain ⟨K', g1, g2⟩ := h K a w (hin.conv (by rw [h1]) h2.symm h3.symm h4.symm) (by rw [← h1]; exact hs)
  exact ⟨K', g1.conv (by rw [h1]) h2 h3 h4, by rw [h1]; exact g2⟩
/-- A function's body, with all the ways in which it may end. -/
theorem RetX.of_bodyD {P f fn c ds obs nx post} (hf : P.funcs[f]? = some fn) (hb : fn.body = some c) (hn : ds.length ≤ fn.ntmps)
    (h : ∀ Γ : Ctx, Γ.n0 = nx → Γ.own.dfr = [] → (∀ ch s, PanG Γ post ch s → Γ.pan ch s) → (∀ e a w', bodyPostD P fn (RX Γ.base post) e a w' → Γ.esc e a w') → V P Γ c (entry ds fn.ntmps obs nx) (RunK P Γ (EndW P Γ fn nx fun d o n => post (.val d) o n) .done)) : RetX P f ds obs nx post := by
  intro k own w vs hsat hhdr hfresh hrep
  have hsz : vs.size = ds.length := hrep.1
  let Γ0 : Ctx := .of own k nx w
  let Γ : Ctx := ⟨⟨own, []⟩, k, nx, w, PanG Γ0 post, bodyPostD P fn (RX Γ0 post)⟩
  have hpan : ∀ ch s, PanG Γ post ch s → Γ.pan ch s := fun ch s ⟨s', h1, h2, h3⟩ => ⟨s', h1.conv rfl rfl rfl rfl, h2, h3⟩
  have hR : ∀ e w', RX Γ post e w' → RX Γ0 post e w' := fun e w' h => h.conv rfl rfl rfl rfl
  have hesc : ∀ e a w', bodyPostD P fn (RX Γ.base post) e a w' → Γ.esc e a w' := fun e a w' h => h
  refine calls_of_wp_defers (R := RX Γ0 post) hf hb (wp_mono (h Γ rfl rfl hpan hesc k _ w ⟨.refl _, hhdr, fun b o v e => .inl e, hfresh, rfl, rfl, rfl, Nat.le_refl _, fun _ _ => rfl⟩
    ⟨hsat, rfl, ?_, fun x d hx => ?_, hhdr⟩) ?_)
  · simp [entry, hsz]; omega
  · simp only [entry, getK_zipIdx, Nat.zero_le, if_true, Nat.sub_zero] at hx
    have hlt := (List.getElem?_eq_some_iff.1 hx).1
    refine ⟨by simp [entry]; omega, ?_⟩
    have := hrep.2 x d hx
    have e : (vs ++ Array.replicate (fn.ntmps - vs.size) undef).getD x undef = vs.getD x undef := by
      simp [Array.getElem?_append, show x < vs.size by omega]
    rw [e]
    exact this
  · rintro e a' w' (⟨K', s', hin, hs, hend⟩ | hx)
    · have hd : a'.defers = [] := hs.defers
      cases e with
      | panic ch =>
        obtain ⟨s2, hw, hn2, hp⟩ := (hend : PanG Γ0 post ch s')
        obtain ⟨K2, h1, h2⟩ := hw K' a' w' (hin.conv rfl rfl rfl rfl) hs
        show Leaves P fn a'.tmps (RX Γ0 post) a'.defers (.panicking ch) w'
        rw [hd]
        exact ⟨.pan ch, s2.obs, s2.next, K2, rfl, h1, h2.sat, h2.hdr, hn2, hp⟩
      | normal =>
        obtain ⟨v, h1, h2⟩ := endW_results (Γ := Γ) (post := post) hend hin hs
        show Leaves P fn a'.tmps (RX Γ0 post) a'.defers .returning w'
        rw [hd]
        exact ⟨v, h1, hR _ _ h2⟩
      | ret =>
        obtain ⟨v, h1, h2⟩ := endW_results (Γ := Γ) (post := post) hend hin hs
        show Leaves P fn a'.tmps (RX Γ0 post) a'.defers .returning w'
        rw [hd]
        exact ⟨v, h1, hR _ _ h2⟩
      | exit i => obtain ⟨_, _, h1, _⟩ := hend; rcases h1 with h1 | h1 <;> cases h1
      | goto i => obtain ⟨_, _, h1, _⟩ := hend; rcases h1 with h1 | h1 <;> cases h1
      | outgrown => obtain ⟨_, _, h1, _⟩ := hend; rcases h1 with h1 | h1 <;> cases h1
    · exact hx.2
theorem RetX.of_bodyW {P f fn c ds obs nx post} (hf : P.funcs[f]? = some fn) (hb : fn.body = some c) (hn : ds.length ≤ fn.ntmps)
    (h : ∀ Γ : Ctx, Γ.n0 = nx → (∀ ch s, PanG Γ post ch s → Γ.pan ch s) → V P Γ c (entry ds fn.ntmps obs nx) (RunK P Γ (EndW P Γ fn nx fun d o n => post (.val d) o n) .done)) : RetX P f ds obs nx post :=
  RetX.of_bodyD hf hb hn fun Γ h1 _ h2 _ => h Γ h1 h2
end Go.VL
