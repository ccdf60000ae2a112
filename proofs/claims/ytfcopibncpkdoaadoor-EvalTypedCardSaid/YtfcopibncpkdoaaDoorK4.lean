/- Texts joined by a program of mine: VLU VLV VLW VLX VLY VLQ VLZ Fb Fc Fd Fe Ff. -/
import Derived.Test.YtfcopibncpkdoaaDoorK3
import Derived.Recover
set_option linter.all false
set_option maxRecDepth 100000
set_option maxHeartbeats 8000000
namespace Go.VL
open Go
def fam (b : Nat) : List Ob → List (Nat × Ob)
 | [] => []
 | o :: l => (b, o) :: fam (b + 1) l
theorem getK_fam : ∀ (b : Nat) (l : List Ob) (j : Nat), getK (fam b l) j = if b ≤ j then l[j - b]? else none
 | b, [], j => by simp [fam, getK]
 | b, o :: l, j => by
  rw [fam, getK_cons, getK_fam (b + 1) l j]
  by_cases h : j = b
  ·subst h; simp
  ·rw [if_neg h]
   by_cases h2 : b ≤ j
   ·rw [if_pos (show b + 1 ≤ j by omega), if_pos h2, show j - b = (j - (b + 1)) + 1 by omega, List.getElem?_cons_succ]
   ·rw [if_neg (by omega), if_neg h2]
theorem getK_fam_add (b : Nat) (l : List Ob) (i : Nat) : getK (fam b l) (i + b) = l[i]? := by rw [getK_fam, if_pos (by omega), Nat.add_sub_cancel]
theorem Wk.eqo {Γ : Ctx} {s s' : St} (h : s.Eqo s') : Wk Γ s s' := fun K _ _ h1 h2 => ⟨K, h1, h2.eqo h⟩
/-- The objects end in T; those ahead of it lie outside of its numbers. -/
def EndsIn (T : List (Nat × Ob)) (b k : Nat) : List (Nat × Ob) → Prop
 | [] => T = []
 | p :: l => (p :: l = T) ∨ ((p.1 < b ∨ k + b ≤ p.1) ∧ EndsIn T b k l)
theorem EndsIn.out {T b k} : ∀ {obs}, EndsIn T b k obs → ∃ A, obs = A ++ T ∧ ∀ p ∈ A, p.1 < b ∨ k + b ≤ p.1
 | [], h => ⟨[], by rw [show T = [] from h]; rfl, by simp⟩
 | p :: l, h => by
  rcases h with h | ⟨h1, h2⟩
  ·exact ⟨[], by rw [h]; rfl, by simp⟩
  ·obtain ⟨A, e, h3⟩ := EndsIn.out h2
   exact ⟨p :: A, by rw [e]; rfl, fun q hq => (List.mem_cons.1 hq).elim (fun e => by rw [e]; exact h1) (h3 q)⟩
theorem EndsIn.get {L : List Ob} {b obs} (h : EndsIn (fam b L) b L.length obs) {i : Nat} (hi : i < L.length) : getK obs (i + b) = L[i]? := by
 obtain ⟨A, rfl, h2⟩ := h.out
 rw [getK_append]
 have : getK A (i + b) = none := by
  cases hq : getK A (i + b) with
  | none => rfl
  | some o =>
   obtain ⟨p, hp, e⟩ := List.mem_map.1 (getK_mem hq)
   have := h2 p hp
   omega
 rw [this, getK_fam_add]
def famPure (L : List Ob) : Prop := ∀ o ∈ L, ∃ e sz B, o = .vec e sz B ∧ pureRows B
theorem famPure.under {L : List Ob} (h : famPure L) {o : Ob} (ho : o ∈ L) (nx : Nat) : o.under nx = true := by
 obtain ⟨e, sz, B, rfl, hB⟩ := h o ho
 exact Ob.under_vec (pureRows_out hB)
theorem Ret.re {P : Program} {f : FuncId} {ds : List D} {obs : List (Nat × Ob)} {nx : Nat} {p q : D → List (Nat × Ob) → Nat → Prop} (h : Ret P f ds obs nx p) (hq : ∀ d o n, p d o n → ∃ o', (∀ j, getK o' j = getK o j) ∧ q d o' n) : Ret P f ds obs nx q :=
 fun k own w vs h1 h2 h3 h4 => (h k own w vs h1 h2 h3 h4).mono fun e w' ⟨v, d, o, nx', k', a1, a2, a3, a4, a5, a6, a7⟩ =>
  let ⟨o', b1, b2⟩ := hq d o nx' a7
  ⟨v, d, o', nx', k', a1, a2, a3.congr b1, a4, a5, a6, b2⟩
end Go.VL
namespace Go.VL
open Go
theorem CallP_wk {P : Program} {Γ : Ctx} {s s' : St} {k : St → Prop} {dst : Option Tmp} {fop : Operand} {args : List Operand} (hw : Wk Γ s s') (h : CallP P Γ fop args dst s' k) : CallP P Γ fop args dst s k := fun ts ty pos after K a w hin hs =>
 let ⟨K', h1, h2⟩ := hw K a w hin hs
 h ts ty pos after K' a w h1 h2
end Go.VL
namespace Go.VL
open Go
/-- How a call ends: a value, or a panic. -/
inductive Out where
 | val (d : D)
 | pan (ch : List PanicEntry)
def OutRep (k : Kr) (e : Ending) : Out → Prop
 | .val d => ∃ v, e = .returned v ∧ Rep k d v
 | .pan ch => e = .panicked ch
/-- What a call gives back, or how it panics. -/
def RetX (P : Program) (f : FuncId) (ds : List D) (obs : List (Nat × Ob)) (nx : Nat) (post : Out → List (Nat × Ob) → Nat → Prop) : Prop :=
 ∀ (k : Kr) (own : Nat → Prop) (w : World) (vs : Array Value), Sat k own obs w → (∀ i, nx ≤ i → k.hdr i = none) → (∀ b, w.heap.size ≤ b → own b) → RepL k ds vs →
  Calls P f vs w fun e w' => ∃ r obs' nx' k', OutRep k' e r ∧ In (.of own k nx w) k' w' ∧ Sat k' own obs' w' ∧ (∀ i, nx' ≤ i → k'.hdr i = none) ∧ nx ≤ nx' ∧ post r obs' nx'
theorem Ret.x {P f ds obs nx post} (h : Ret P f ds obs nx post) : RetX P f ds obs nx fun r o n => match r with | .val d => post d o n | .pan _ => False :=
 fun k own w vs h1 h2 h3 h4 => (h k own w vs h1 h2 h3 h4).mono fun _ _ ⟨v, d, o, n, k', e, a, b, c, g, r, hp⟩ => ⟨.val d, o, n, k', ⟨v, e, r⟩, a, b, c, g, hp⟩
theorem RetX.mono {P f ds obs nx} {p q : Out → List (Nat × Ob) → Nat → Prop} (h : RetX P f ds obs nx p) (hq : ∀ r o n, p r o n → q r o n) : RetX P f ds obs nx q :=
 fun k own w vs h1 h2 h3 h4 => (h k own w vs h1 h2 h3 h4).mono fun _ _ ⟨r, o, n, k', e, a, b, c, g, hp⟩ => ⟨r, o, n, k', e, a, b, c, g, hq _ _ _ hp⟩
theorem RetX.ret {P f ds obs nx} {p : Out → List (Nat × Ob) → Nat → Prop} {q : D → List (Nat × Ob) → Nat → Prop} (h : RetX P f ds obs nx p) (hv : ∀ d o n, p (.val d) o n → q d o n) (hx : ∀ ch o n, ¬ p (.pan ch) o n) : Ret P f ds obs nx q :=
 fun k own w vs h1 h2 h3 h4 => (h k own w vs h1 h2 h3 h4).mono fun _ _ ⟨r, o, n, k', e, a, b, c, g, hp⟩ => by
  cases r with
  | val d =>
   obtain ⟨v, e, hr⟩ := e
   exact ⟨v, d, o, n, k', e, a, b, c, g, hr, hv d o n hp⟩
  | pan ch => exact absurd hp (hx ch o n)
theorem RetX.congr {P f ds obs obs' nx post} (h : RetX P f ds obs nx post) (e : ∀ i, getK obs' i = getK obs i) : RetX P f ds obs' nx post :=
 fun k own w vs hsat hhdr hfresh hrep => h k own w vs (Sat.congr hsat fun i => (e i).symm) hhdr hfresh hrep
/-- What a call does not know of stays az it is: the memory behind it. -/
theorem frame_sat {k k' : Kr} {own : Nat → Prop} {obs F o1 : List (Nat × Ob)} {nx : Nat} {w w' : World} (hsat : Sat k own (F ++ obs) w)
  (hin : In (.of (fun b => own b ∧ ¬ Blk k F b) k nx w) k' w') (hs1 : Sat k' (fun b => own b ∧ ¬ Blk k F b) o1 w') : Sat k' own (F ++ o1) w' := by
 have hfo : ∀ i ob, getK F i = some ob → getK (F ++ obs) i = some ob := fun i ob hi => by rw [getK_append, hi]
 have hFat : ∀ i ob, getK F i = some ob → ∃ g, k.hdr i = some g ∧ k'.hdr i = some g ∧ (∀ b, g.1 = some b → own b ∧ (∀ o, k'.mem b o = none) ∧ Blk k F b) ∧ ObAt k' w' g ob := fun i ob hi => by
  obtain ⟨g, h1, h2, h3⟩ := hsat.ob i ob (hfo i ob hi)
  have hB : ∀ b, g.1 = some b → Blk k F b := fun b hb => ⟨i, ob, g, hi, h1, hb⟩
  refine ⟨g, h1, hin.le.hdr i g h1, fun b hb => ⟨(h2 b hb).1, fun o => ?_, hB b hb⟩, h3.keep hin.le fun b hb => hin.block b fun hb' => hb'.2 (hB b hb)⟩
  cases hm : k'.mem b o with
  | none => rfl
  | some x =>
   rcases hin.memNew b o x hm with h4 | h4
   ·have h4' : k.mem b o = some x := h4
    rw [(h2 b hb).2 o] at h4'; cases h4'
   ·exact absurd (hB b hb) h4.2
 refine ⟨hs1.mem, fun i ob hi => ?_, fun i j x y g g' b hx hy hij hg hg' hb => ?_⟩
 ·rw [getK_append] at hi
  cases hf : getK F i with
  | some x =>
   rw [hf] at hi
   cases hi
   obtain ⟨g, _, h2, h3, h4⟩ := hFat i _ hf
   exact ⟨g, h2, fun b hb => ⟨(h3 b hb).1, (h3 b hb).2.1⟩, h4⟩
  | none =>
   rw [hf] at hi
   obtain ⟨g, h1, h2, h3⟩ := hs1.ob i ob hi
   exact ⟨g, h1, fun b hb => ⟨(h2 b hb).1.1, (h2 b hb).2⟩, h3⟩
 ·rw [getK_append] at hx hy
  cases hfx : getK F i with
  | some x' =>
   obtain ⟨g1, k1, k2, k3, _⟩ := hFat i _ hfx
   rw [hg] at k2
   cases k2
   cases hfy : getK F j with
   | some y' =>
    obtain ⟨g2, l1, l2, l3, _⟩ := hFat j _ hfy
    rw [hg'] at l2
    cases l2
    exact hsat.apart i j x' y' g g' b (hfo i _ hfx) (hfo j _ hfy) hij k1 l1 hb
   | none =>
    rw [hfy] at hy
    obtain ⟨g2, l1, l2, _⟩ := hs1.ob j y hy
    rw [hg'] at l1
    cases l1
    exact fun e => (l2 b e).1.2 (k3 b hb).2.2
  | none =>
   rw [hfx] at hx
   cases hfy : getK F j with
   | some y' =>
    obtain ⟨g2, l1, l2, l3, _⟩ := hFat j _ hfy
    rw [hg'] at l2
    cases l2
    obtain ⟨g1, k1, k2, _⟩ := hs1.ob i x hx
    rw [hg] at k1
    cases k1
    exact fun e => (k2 b hb).1.2 (l3 b e).2.2
   | none =>
    rw [hfy] at hy
    exact hs1.apart i j x y g g' b hx hy hij hg hg' hb
theorem frame_sat0 {k : Kr} {own : Nat → Prop} {obs F : List (Nat × Ob)} {w : World} (hF : ∀ i ob, getK F i = some ob → getK obs i = none) (hsat : Sat k own (F ++ obs) w) : Sat k (fun b => own b ∧ ¬ Blk k F b) obs w := by
 have hob : ∀ i ob, getK obs i = some ob → getK F i = none ∧ getK (F ++ obs) i = some ob := fun i ob hi => by
  have hn : getK F i = none := by
   cases hf : getK F i with
   | none => rfl
   | some x => rw [hF i x hf] at hi; cases hi
  exact ⟨hn, by rw [getK_append, hn]; exact hi⟩
 have hfo : ∀ i ob, getK F i = some ob → getK (F ++ obs) i = some ob := fun i ob hi => by rw [getK_append, hi]
 refine ⟨hsat.mem, fun i ob hi => ?_, fun i j x y g g' b hx hy hij => ?_⟩
 ·obtain ⟨hn, hi'⟩ := hob i ob hi
  obtain ⟨g, h1, h2, h3⟩ := hsat.ob i ob hi'
  refine ⟨g, h1, fun b hb => ⟨⟨(h2 b hb).1, ?_⟩, (h2 b hb).2⟩, h3⟩
  rintro ⟨j, oj, g', h4, h5, h6⟩
  exact hsat.apart i j ob oj g g' b hi' (hfo j oj h4) (fun e => by subst e; rw [hn] at h4; cases h4) h1 h5 hb h6
 ·exact hsat.apart i j x y g g' b (hob i x hx).2 (hob j y hy).2 hij
theorem frame_fresh {k : Kr} {own : Nat → Prop} {obs F : List (Nat × Ob)} {w : World} (hsat : Sat k own (F ++ obs) w) (hfresh : ∀ b, w.heap.size ≤ b → own b) : ∀ b, w.heap.size ≤ b → own b ∧ ¬ Blk k F b := fun b hb => by
 refine ⟨hfresh b hb, fun hB => ?_⟩
 obtain ⟨i, ob, g, h1, h2, h3⟩ := hB
 exact absurd (hsat.lt ⟨i, ob, g, by rw [getK_append, h1], h2, h3⟩) (by omega)
theorem frame_in {k k' : Kr} {own : Nat → Prop} {F : List (Nat × Ob)} {nx : Nat} {w w' : World} (hfresh : ∀ b, w.heap.size ≤ b → own b) (hin : In (.of (fun b => own b ∧ ¬ Blk k F b) k nx w) k' w') : In (.of own k nx w) k' w' :=
 ⟨hin.le, hin.none0, fun b o x hx => (hin.memNew b o x hx).imp id (·.1), hfresh, hin.os, hin.tape, hin.output, hin.size, fun b hb => hin.block b fun hb' => hb hb'.1⟩
theorem RetX.frame {P f ds obs nx post} (F : List (Nat × Ob)) (hF : ∀ i ob, getK F i = some ob → getK obs i = none) (h : RetX P f ds obs nx post) :
  RetX P f ds (F ++ obs) nx (fun r o n => ∃ o1, o = F ++ o1 ∧ post r o1 n) := by
 intro k own w vs hsat hhdr hfresh hrep
 refine (h k _ w vs (frame_sat0 hF hsat) hhdr (frame_fresh hsat hfresh) hrep).mono ?_
 rintro e w' ⟨r, o1, n', k', he, hin, hs1, hh1, hle, hp⟩
 exact ⟨r, F ++ o1, n', k', he, frame_in hfresh hin, frame_sat hsat hin hs1, hh1, hle, o1, rfl, hp⟩
/-- A call that may panic, by what it does to the objects. -/
theorem EffP.callX {P Γ s k} {fop : Operand} {args : Array Operand} {ts : Array TypeId} {ty : TypeId} {f caps dst pos after} {ds : List D} {post : Out → List (Nat × Ob) → Nat → Prop}
  (hf : calleeOf (opd s fop) = some (f, caps)) (hc : callable P f = true) (hds : args.toList.map (opd s) ++ caps = ds) (hret : RetX P f ds s.obs s.next post) (hp : putOK dst s)
  (hk : ∀ d obs' nx', s.next ≤ nx' → post (.val d) obs' nx' → k (({ s with obs := obs', next := nx' } : St).put dst d))
  (hx : ∀ ch obs' nx', s.next ≤ nx' → post (.pan ch) obs' nx' → ∃ s2, Wk Γ { s with obs := obs', next := nx' } s2 ∧ Γ.pan ch s2) :
  EffP P Γ { dst, op := .call { callee := .value fop, args, argTypes := ts }, type := ty, pos, after, guard := none } s k := by
 intro K a w hin hs Kont Q hK hP
 obtain ⟨vs, hrep, hrun⟩ := call_run hs (args := args) (ts := ts) (ty := ty) hf hc dst pos after none
 rw [hds] at hrep
 unfold Oper.wp
 rw [hrun]
 refine Calls.mono (hret K Γ.own w vs hs.sat hs.hdr (fun b hb => hin.own_of_ge hb) hrep) ?_
 rintro e w' ⟨r, obs', nx', k', hr, hin', hsat', hhdr', hnx, hpost⟩
 have hle : K.le k' := hin'.le
 have hin2 : In Γ k' w' := hin.step hle (fun b o v e => hin'.memNew b o v e) hin'.os hin'.tape hin'.output hin'.size hin'.block
 have hsim : Sim k' Γ.own ({ s with obs := obs', next := nx' } : St) a w' := ⟨hsat', hs.defers, hs.size, fun x d hx => ⟨(hs.env x d hx).1, (hs.env x d hx).2.mono hle⟩, hhdr'⟩
 cases r with
 | val d =>
  obtain ⟨v, rfl, hr⟩ := hr
  exact hK k' _ w' _ hin2 (hsim.put (by cases dst <;> simp_all [putOK]) hr) (hk d obs' nx' hnx hpost)
 | pan ch =>
  obtain rfl := hr
  obtain ⟨s2, hw, hpn⟩ := hx ch obs' nx' hnx hpost
  obtain ⟨k2, g1, g2⟩ := hw k' a w' hin2 hsim
  exact hP ch k2 a w' s2 g1 g2 hpn
theorem CallP.x_ {P : Program} {Γ : Ctx} {s : St} {k : St → Prop} {dst : Option Tmp} {fop : Operand} {args : List Operand} {f caps} {ds : List D} {post : Out → List (Nat × Ob) → Nat → Prop} (hret : RetX P f ds s.obs s.next post)
  (hf : calleeOf (opd s fop) = some (f, caps)) (hc : callable P f = true) (hds : args.map (opd s) ++ caps = ds) (hp : putOK dst s)
  (hk : ∀ d obs' nx', s.next ≤ nx' → post (.val d) obs' nx' → k (({ s with obs := obs', next := nx' } : St).put dst d))
  (hx : ∀ ch obs' nx', s.next ≤ nx' → post (.pan ch) obs' nx' → ∃ s2, Wk Γ { s with obs := obs', next := nx' } s2 ∧ Γ.pan ch s2) : CallP P Γ fop args dst s k :=
 fun _ _ _ _ => EffP.callX hf hc hds hret hp hk hx
theorem CallP.xF {P : Program} {Γ : Ctx} {s : St} {k : St → Prop} {dst : Option Tmp} {fop : Operand} {args : List Operand} {f caps} {ds : List D} {post : Out → List (Nat × Ob) → Nat → Prop} (F obs : List (Nat × Ob)) (hret : RetX P f ds obs s.next post)
  (heq : ∀ i, getK s.obs i = getK (F ++ obs) i) (hF : ∀ i ob, getK F i = some ob → getK obs i = none)
  (hf : calleeOf (opd s fop) = some (f, caps)) (hc : callable P f = true) (hds : args.map (opd s) ++ caps = ds) (hp : putOK dst s)
  (hk : ∀ d o1 nx', s.next ≤ nx' → post (.val d) o1 nx' → k (({ s with obs := F ++ o1, next := nx' } : St).put dst d))
  (hx : ∀ ch o1 nx', s.next ≤ nx' → post (.pan ch) o1 nx' → ∃ s2, Wk Γ { s with obs := F ++ o1, next := nx' } s2 ∧ Γ.pan ch s2) : CallP P Γ fop args dst s k :=
 CallP.x_ ((hret.frame F hF).congr heq) hf hc hds hp (fun d o n hn ⟨o1, ho, hpo⟩ => by subst ho; exact hk d o1 n hn hpo) (fun ch o n hn ⟨o1, ho, hpo⟩ => by subst ho; exact hx ch o1 n hn hpo)
theorem CallP.x0 {P : Program} {Γ : Ctx} {s : St} {k : St → Prop} {dst : Option Tmp} {fop : Operand} {args : List Operand} {f caps} {ds : List D} {post : Out → List (Nat × Ob) → Nat → Prop} (hret : RetX P f ds [] s.next post)
  (hf : calleeOf (opd s fop) = some (f, caps)) (hc : callable P f = true) (hds : args.map (opd s) ++ caps = ds) (hp : putOK dst s)
  (hk : ∀ d o1 nx', s.next ≤ nx' → post (.val d) o1 nx' → k (({ s with obs := s.obs ++ o1, next := nx' } : St).put dst d))
  (hx : ∀ ch o1 nx', s.next ≤ nx' → post (.pan ch) o1 nx' → ∃ s2, Wk Γ { s with obs := s.obs ++ o1, next := nx' } s2 ∧ Γ.pan ch s2) : CallP P Γ fop args dst s k :=
 CallP.xF s.obs [] hret (fun i => by simp) (fun i ob _ => rfl) hf hc hds hp hk hx
theorem CallP.x1 {P : Program} {Γ : Ctx} {s : St} {k : St → Prop} {dst : Option Tmp} {fop : Operand} {args : List Operand} {f caps} {ds : List D} {post : Out → List (Nat × Ob) → Nat → Prop} {j : Nat} {ob : Ob} (hret : RetX P f ds [(j, ob)] s.next post)
  (hj : getK s.obs j = some ob) (hf : calleeOf (opd s fop) = some (f, caps)) (hc : callable P f = true) (hds : args.map (opd s) ++ caps = ds) (hp : putOK dst s)
  (hk : ∀ d o1 nx', s.next ≤ nx' → post (.val d) o1 nx' → k (({ s with obs := del s.obs j ++ o1, next := nx' } : St).put dst d))
  (hx : ∀ ch o1 nx', s.next ≤ nx' → post (.pan ch) o1 nx' → ∃ s2, Wk Γ { s with obs := del s.obs j ++ o1, next := nx' } s2 ∧ Γ.pan ch s2) : CallP P Γ fop args dst s k :=
 CallP.xF (del s.obs j) [(j, ob)] hret (fun i => by
  rw [getK_append, getK_del]
  by_cases h : i = j
  ·subst h; simp [hj, getK]
  ·simp only [if_neg h, getK]
   cases getK s.obs i <;> rfl) (fun i o hi => by
  rw [getK_del] at hi
  by_cases h : i = j
  ·rw [if_pos h] at hi; cases hi
  ·simp [getK, h]) hf hc hds hp hk hx
/-- A call that is handed one object, and goes through, or panics. -/
theorem CallP.ok1 {P : Program} {Γ : Ctx} {s : St} {k : St → Prop} {dst : Option Tmp} {fop : Operand} {args : List Operand} {f caps} {ds : List D} {j : Nat} {ob ob' : Ob} {d : D}
  (hret : RetX P f ds [(j, ob)] s.next fun r o n => r = .val d ∧ o = [(j, ob')] ∧ n = s.next)
  (hj : getK s.obs j = some ob) (hf : calleeOf (opd s fop) = some (f, caps)) (hc : callable P f = true) (hds : args.map (opd s) ++ caps = ds) (hp : putOK dst s)
  (hk : k (({ s with obs := del s.obs j ++ [(j, ob')], next := s.next } : St).put dst d)) : CallP P Γ fop args dst s k :=
 CallP.x1 hret hj hf hc hds hp (fun d' o1 nx' _ ⟨h1, h2, h3⟩ => by cases h1; subst h2; subst h3; exact hk) (fun ch o1 nx' _ ⟨h1, _⟩ => by cases h1)
theorem CallP.pan1 {P : Program} {Γ : Ctx} {s : St} {k : St → Prop} {dst : Option Tmp} {fop : Operand} {args : List Operand} {f caps} {ds : List D} {j : Nat} {ob : Ob} {ch : List PanicEntry} {p : Ob → Prop}
  (hret : RetX P f ds [(j, ob)] s.next fun r o n => r = .pan ch ∧ (∃ ob', p ob' ∧ o = [(j, ob')]) ∧ n = s.next)
  (hj : getK s.obs j = some ob) (hf : calleeOf (opd s fop) = some (f, caps)) (hc : callable P f = true) (hds : args.map (opd s) ++ caps = ds) (hp : putOK dst s)
  (hx : ∀ ob', p ob' → ∃ s2, Wk Γ { s with obs := del s.obs j ++ [(j, ob')], next := s.next } s2 ∧ Γ.pan ch s2) : CallP P Γ fop args dst s k :=
 CallP.x1 hret hj hf hc hds hp (fun d' o1 nx' _ ⟨h1, _⟩ => by cases h1) (fun ch' o1 nx' _ ⟨h1, ⟨ob', h2, h3⟩, h4⟩ => by cases h1; subst h3; subst h4; exact hx ob' h2)
/-- The same, and a second object that is gone behind it. -/
theorem CallP.x2 {P : Program} {Γ : Ctx} {s : St} {k : St → Prop} {dst : Option Tmp} {fop : Operand} {args : List Operand} {f caps} {ds : List D} {post : Out → List (Nat × Ob) → Nat → Prop} {j q : Nat} {ob oq : Ob} (hret : RetX P f ds [(j, ob), (q, oq)] s.next post)
  (hj : getK s.obs j = some ob) (hq : getK s.obs q = some oq) (hne : j ≠ q) (hf : calleeOf (opd s fop) = some (f, caps)) (hc : callable P f = true) (hds : args.map (opd s) ++ caps = ds) (hp : putOK dst s)
  (hk : ∀ d o1 nx', s.next ≤ nx' → post (.val d) o1 nx' → k (({ s with obs := del (del s.obs j) q ++ o1, next := nx' } : St).put dst d))
  (hx : ∀ ch o1 nx', s.next ≤ nx' → post (.pan ch) o1 nx' → ∃ s2, Wk Γ { s with obs := del (del s.obs j) q ++ o1, next := nx' } s2 ∧ Γ.pan ch s2) : CallP P Γ fop args dst s k :=
 CallP.xF (del (del s.obs j) q) [(j, ob), (q, oq)] hret (fun i => by
  rw [getK_append, getK_del, getK_del]
  by_cases h : i = q
  ·subst h; rw [if_pos rfl]; simp [getK, Ne.symm hne, hq]
  ·rw [if_neg h]
   by_cases h2 : i = j
   ·subst h2; simp [hj, getK]
   ·simp only [if_neg h2, getK, if_neg h]
    cases getK s.obs i <;> rfl) (fun i o hi => by
  rw [getK_del, getK_del] at hi
  by_cases h : i = q
  ·rw [if_pos h] at hi; cases hi
  ·rw [if_neg h] at hi
   by_cases h2 : i = j
   ·rw [if_pos h2] at hi; cases hi
   ·simp [getK, h, h2]) hf hc hds hp hk hx
/-- The same call, nothing put off. -/
def Ctx.base (Γ : Ctx) : Ctx := .of Γ.own.own Γ.k0 Γ.n0 Γ.w0
/-- A panic, up to what the state may be told az. -/
def PanG (Γ : Ctx) (post : Out → List (Nat × Ob) → Nat → Prop) (ch : List PanicEntry) (s : St) : Prop := ∃ s', Wk Γ s s' ∧ Γ.n0 ≤ s'.next ∧ post (.pan ch) s'.obs s'.next
/-- What a call leaves behind. -/
def RX (Γ : Ctx) (post : Out → List (Nat × Ob) → Nat → Prop) (e : Ending) (w' : World) : Prop :=
 ∃ r obs' nx' k', OutRep k' e r ∧ In Γ k' w' ∧ Sat k' Γ.own obs' w' ∧ (∀ i, nx' ≤ i → k'.hdr i = none) ∧ Γ.n0 ≤ nx' ∧ post r obs' nx'
theorem endW_results {P Γ fn e s K a w} {post : Out → List (Nat × Ob) → Nat → Prop} (hend : EndW P Γ fn Γ.n0 (fun d o n => post (.val d) o n) e s) (hin : In Γ K w) (hs : Sim K Γ.own s a w) :
  ∃ v, (results fn a.tmps).run P w = .ok v w ∧ RX Γ post (.returned v) w := by
 obtain ⟨s', hw, _, hres⟩ := hend
 obtain ⟨K', hin, hs⟩ := hw K a w hin hs
 obtain ⟨rs, rv, hfin, hrun, hlen, hr⟩ := resD_run hs _ _ hres
 have hres' : (results fn a.tmps).run P w = .ok (if h : rv.toArray.size = 1 then rv.toArray[0] else .tuple rv.toArray) w := by
  unfold results
  rw [Array.mapM_eq_mapM_toList]
  have e : (fn.results.toList.mapM fun (x : ResultVar) => match x with | .tmp t => (pure (a.tmps.getD t undef) : Sem Value) | .cell x t => do loadVar t (← asAddr (a.tmps.getD x undef))).run P w = .ok rv w := hrun
  simp only [Sem.run_bind, Sem.run_map, Result.andThen_ok]
  erw [e]
  simp
 have hrepv : Rep K' (oneOrTup rs) (if h : rv.toArray.size = 1 then rv.toArray[0] else .tuple rv.toArray) := by
  match rs, rv, hlen, hr with
  | [], [], _, hr => exact .tup [] [] rfl (by simp)
  | [d], [v], _, hr => simpa [oneOrTup] using hr 0 d rfl
  | d :: d1 :: ds, v :: v1 :: vs, hlen, hr =>
   simp only [oneOrTup]
   rw [dif_neg (by simp)]
   exact .tup _ _ hlen hr
 refine ⟨_, hres', ?_⟩
 rcases hfin with ⟨s2, ρ, d', hle, hd, hu, hnx, hpost⟩ | ⟨hnx, hpost⟩
 ·obtain ⟨h1, h2⟩ := Sim.weak hin hs hle
  exact ⟨.val d', s2.obs, s2.next, _, ⟨_, rfl, hrepv.weak hd hu⟩, h1, h2.sat, h2.hdr, hnx, hpost⟩
 ·exact ⟨.val _, s'.obs, s'.next, K', ⟨_, rfl, hrepv⟩, hin, hs.sat, hs.hdr, hnx, hpost⟩
theorem RX.conv {Γ Γ' : Ctx} {post e w'} (h : RX Γ post e w') (h1 : Γ'.own.own = Γ.own.own) (h2 : Γ'.k0 = Γ.k0) (h3 : Γ'.n0 = Γ.n0) (h4 : Γ'.w0 = Γ.w0) : RX Γ' post e w' := by
 obtain ⟨r, o, n, k', a, b, c, d, e, f⟩ := h
 exact ⟨r, o, n, k', a, b.conv h1 h2 h3 h4, by rw [h1]; exact c, d, by rw [h3]; exact e, f⟩
theorem Wk.conv {Γ Γ' : Ctx} {s s'} (h : Wk Γ s s') (h1 : Γ'.own = Γ.own) (h2 : Γ'.k0 = Γ.k0) (h3 : Γ'.n0 = Γ.n0) (h4 : Γ'.w0 = Γ.w0) : Wk Γ' s s' := fun K a w hin hs => by
 obtain ⟨K', g1, g2⟩ := h K a w (hin.conv (by rw [h1]) h2.symm h3.symm h4.symm) (by rw [← h1]; exact hs)
 exact ⟨K', g1.conv (by rw [h1]) h2 h3 h4, by rw [h1]; exact g2⟩
/-- A function's body, with all the ways in which it may end. -/
theorem RetX.of_bodyD {P f fn c ds obs nx post} (hf : P.funcs[f]? = some fn) (hb : fn.body = some c) (hn : ds.length ≤ fn.ntmps)
  (h : ∀ Γ : Ctx, Γ.n0 = nx → Γ.own.dfr = [] → (∀ ch s, PanG Γ post ch s → Γ.pan ch s) → (∀ e a w', bodyPostD P fn (RX Γ.base post) e a w' → Γ.esc e a w') → V P Γ c (entry ds fn.ntmps obs nx) (RunK P Γ (EndW P Γ fn nx fun d o n => post (.val d) o n) .done)) : RetX P f ds obs nx post := by
 intro k own w vs hsat hhdr hfresh hrep
 have hsz : vs.size = ds.length := hrep.1
 let Γ0 : Ctx := .of own k nx w
 let Γ : Ctx := ⟨⟨own, []⟩, k, nx, w, PanG Γ0 post, bodyPostD P fn (RX Γ0 post)⟩
 have hpan : ∀ ch s, PanG Γ post ch s → Γ.pan ch s := fun ch s ⟨s', h1, h2, h3⟩ => ⟨s', h1.conv rfl rfl rfl rfl, h2, h3⟩
 have hR : ∀ e w', RX Γ post e w' → RX Γ0 post e w' := fun e w' h => h.conv rfl rfl rfl rfl
 have hesc : ∀ e a w', bodyPostD P fn (RX Γ.base post) e a w' → Γ.esc e a w' := fun e a w' h => h
 refine calls_of_wp_defers (R := RX Γ0 post) hf hb (wp_mono (h Γ rfl rfl hpan hesc k _ w ⟨.refl _, hhdr, fun b o v e => .inl e, hfresh, rfl, rfl, rfl, Nat.le_refl _, fun _ _ => rfl⟩
  ⟨hsat, rfl, ?_, fun x d hx => ?_, hhdr⟩) ?_)
 ·simp [entry, hsz]; omega
 ·simp only [entry, getK_zipIdx, Nat.zero_le, if_true, Nat.sub_zero] at hx
  have hlt := (List.getElem?_eq_some_iff.1 hx).1
  refine ⟨by simp [entry]; omega, ?_⟩
  have := hrep.2 x d hx
  have e : (vs ++ Array.replicate (fn.ntmps - vs.size) undef).getD x undef = vs.getD x undef := by
   simp [Array.getElem?_append, show x < vs.size by omega]
  rw [e]
  exact this
 ·rintro e a' w' (⟨K', s', hin, hs, hend⟩ | hx)
  ·have hd : a'.defers = [] := hs.defers
   cases e with
   | panic ch =>
    obtain ⟨s2, hw, hn2, hp⟩ := (hend : PanG Γ0 post ch s')
    obtain ⟨K2, h1, h2⟩ := hw K' a' w' (hin.conv rfl rfl rfl rfl) hs
    show Leaves P fn a'.tmps (RX Γ0 post) a'.defers (.panicking ch) w'
    rw [hd]
    exact ⟨.pan ch, s2.obs, s2.next, K2, rfl, h1, h2.sat, h2.hdr, hn2, hp⟩
   | normal =>
    obtain ⟨v, h1, h2⟩ := endW_results (Γ := Γ) (post := post) hend hin hs
    show Leaves P fn a'.tmps (RX Γ0 post) a'.defers .returning w'
    rw [hd]
    exact ⟨v, h1, hR _ _ h2⟩
   | ret =>
    obtain ⟨v, h1, h2⟩ := endW_results (Γ := Γ) (post := post) hend hin hs
    show Leaves P fn a'.tmps (RX Γ0 post) a'.defers .returning w'
    rw [hd]
    exact ⟨v, h1, hR _ _ h2⟩
   | exit i => obtain ⟨_, _, h1, _⟩ := hend; rcases h1 with h1 | h1 <;> cases h1
   | goto i => obtain ⟨_, _, h1, _⟩ := hend; rcases h1 with h1 | h1 <;> cases h1
   | outgrown => obtain ⟨_, _, h1, _⟩ := hend; rcases h1 with h1 | h1 <;> cases h1
  ·exact hx.2
theorem RetX.of_bodyW {P f fn c ds obs nx post} (hf : P.funcs[f]? = some fn) (hb : fn.body = some c) (hn : ds.length ≤ fn.ntmps)
  (h : ∀ Γ : Ctx, Γ.n0 = nx → (∀ ch s, PanG Γ post ch s → Γ.pan ch s) → V P Γ c (entry ds fn.ntmps obs nx) (RunK P Γ (EndW P Γ fn nx fun d o n => post (.val d) o n) .done)) : RetX P f ds obs nx post :=
 RetX.of_bodyD hf hb hn fun Γ h1 _ h2 _ => h Γ h1 h2
end Go.VL
namespace Go.VL
open Go
/-- Code at which a walk stops. -/
@[irreducible] def Hold (c : Code) : Code := c
theorem hold_eq (c : Code) : Hold c = c := by unfold Hold; rfl
theorem hold_defer {id : Nat} {o1 : Oper} {dst : Option Tmp} {cl : Call} {type : TypeId} {pos : String} {after : Array Edge} {guard : Option (Nat × Bool)} {rest : Code} :
  Code.seq (.region id #[o1, { dst, op := .defer cl, type, pos, after, guard }] false) rest = Hold (.seq (.region id #[o1, { dst, op := .defer cl, type, pos, after, guard }] false) rest) := (hold_eq _).symm
/-- What a deferred function does to the objects, and to the frame below. -/
def RetDf (P : Program) (g : FuncId) (caps : List D) (obs : List (Nat × Ob)) (nx : Nat) (u : FrameMode) (post : FrameMode → List (Nat × Ob) → Nat → Prop) : Prop :=
 ∀ (k : Kr) (own : Nat → Prop) (w : World) (vs : Array Value), Sat k own obs w → (∀ i, nx ≤ i → k.hdr i = none) → (∀ b, w.heap.size ≤ b → own b) → RepL k caps vs →
  CallsD P g vs u w fun e u' w' => ∃ v obs' nx' k', e = .returned v ∧ In (.of own k nx w) k' w' ∧ Sat k' own obs' w' ∧ (∀ i, nx' ≤ i → k'.hdr i = none) ∧ nx ≤ nx' ∧ post u' obs' nx'
theorem RetDf.mono {P g caps obs nx u} {p q : FrameMode → List (Nat × Ob) → Nat → Prop} (h : RetDf P g caps obs nx u p) (hq : ∀ u o n, p u o n → q u o n) : RetDf P g caps obs nx u q :=
 fun k own w vs h1 h2 h3 h4 => (h k own w vs h1 h2 h3 h4).mono fun _ _ _ ⟨v, o, n, k', e, a, b, c, d, hp⟩ => ⟨v, o, n, k', e, a, b, c, d, hq _ _ _ hp⟩
theorem RetDf.congr {P g caps obs obs' nx u post} (h : RetDf P g caps obs nx u post) (e : ∀ i, getK obs' i = getK obs i) : RetDf P g caps obs' nx u post :=
 fun k own w vs hsat hhdr hfresh hrep => h k own w vs (Sat.congr hsat fun i => (e i).symm) hhdr hfresh hrep
theorem RetDf.frame {P g caps obs nx u post} (F : List (Nat × Ob)) (hF : ∀ i ob, getK F i = some ob → getK obs i = none) (h : RetDf P g caps obs nx u post) :
  RetDf P g caps (F ++ obs) nx u (fun u o n => ∃ o1, o = F ++ o1 ∧ post u o1 n) := by
 intro k own w vs hsat hhdr hfresh hrep
 refine (h k _ w vs (frame_sat0 hF hsat) hhdr (frame_fresh hsat hfresh) hrep).mono ?_
 rintro e u' w' ⟨v, o1, n', k', he, hin, hs1, hh1, hle, hp⟩
 exact ⟨v, F ++ o1, n', k', he, frame_in hfresh hin, frame_sat hsat hin hs1, hh1, hle, o1, rfl, hp⟩
/-- Where a function leaves that has put off g: the deferred call makes its end good. -/
def LeaveD (P : Program) (Γb : Ctx) (fn : Func) (post : Out → List (Nat × Ob) → Nat → Prop) (g : FuncId) (caps : List D) (u : FrameMode) (s : St) : Prop :=
 RetDf P g caps s.obs s.next u fun u' o n => settle u' = .returning ∧ EndW P Γb fn Γb.n0 (fun d o n => post (.val d) o n) .ret { s with obs := o, next := n }
def EndD (P : Program) (Γb : Ctx) (fn : Func) (post : Out → List (Nat × Ob) → Nat → Prop) (g : FuncId) (caps : List D) (e : Exit) (s : St) : Prop := e = .ret ∧ LeaveD P Γb fn post g caps .returning s
theorem leaveD_run {P Γ Γ' fn post g caps u s K K1 a w w1} (hmode : u ≠ .run) (h : LeaveD P Γ.base fn post g caps u s) (hin1 : In Γ K1 w1) (hin : In Γ' K w) (hs : Sim K Γ'.own s a w) (ho : Γ'.own.own = Γ.own.own) (hk : Γ'.k0 = K1) (hn : ∀ i, Γ'.n0 ≤ i → K1.hdr i = none) (hw : Γ'.w0 = w1)
  (hc : callable P g = true) (vs : Array Value) (hrep : RepL K1 caps vs) :
  Leaves P fn a.tmps (RX Γ.base post) [{ target := .fn (.func g) vs, args := #[] }] u w := by
 have hle1 : K1.le K := by rw [← hk]; exact hin.le
 have hin0 : In Γ K w := hin1.step hle1 (fun b o v e => by have := hin.memNew b o v e; rw [hk, ho] at this; exact this) (by rw [hin.os, hw]) (by rw [hin.tape, hw]) (by rw [hin.output, hw]) (by have := hin.size; rw [hw] at this; exact this)
  (fun b hb => by have := hin.block b (by rw [ho]; exact hb); rw [hw] at this; exact this)
 refine leaves_cons (f := g) (args := vs) hmode ?_ ?_
 ·unfold callable at hc
  split at hc
  ·rename_i fn' hfn
   simp at hc
   obtain ⟨hb, hname⟩ := hc
   have hb' : fn'.body.isNone = false := by cases hbb : fn'.body <;> simp_all
   simp [invoke, callFunc, hfn, hb', hname]
   intro h0
   rw [h0] at hb
   simp at hb
  ·cases hc
 ·refine (h K Γ'.own.own w vs hs.sat hs.hdr (fun b hb => by rw [ho]; exact hin0.own_of_ge hb) ⟨hrep.1, fun j d hj => (hrep.2 j d hj).mono hle1⟩).mono ?_
  rintro e u' w' ⟨v, o, n, k', rfl, hin2, hsat, hhdr, hnx, hset, hend⟩
  rw [ho] at hin2 hsat
  have hin3 : In Γ k' w' := hin0.step hin2.le (fun b o v e => hin2.memNew b o v e) hin2.os hin2.tape hin2.output hin2.size hin2.block
  have hsim : Sim k' Γ.base.own ({ s with obs := o, next := n } : St) { a with defers := [] } w' := ⟨hsat, rfl, hs.size, fun x d hx => ⟨(hs.env x d hx).1, (hs.env x d hx).2.mono hin2.le⟩, hhdr⟩
  obtain ⟨v', h1, h2⟩ := endW_results (Γ := Γ.base) (post := post) hend (hin3.conv rfl rfl rfl rfl) hsim
  show Leaves P fn a.tmps (RX Γ.base post) [] (settle u') w'
  rw [hset]
  exact ⟨v', h1, h2⟩
/-- A function value is made and put off: what follows is walked in a context of its own. -/
theorem V_defer {P Γ fn post s Q kt id g t type pos after type2 pos2 after2 rest} {ts : Array TypeId} {caps : List Operand}
  (hesc : ∀ e a w', bodyPostD P fn (RX Γ.base post) e a w' → Γ.esc e a w') (hd : Γ.own.dfr = []) (hc : callable P g = true) (ht : t < s.n)
  (h : ∀ Γ' : Ctx, Γ'.n0 = s.next → (∀ ch s2, LeaveD P Γ.base fn post g (caps.map (opd s)) (.panicking ch) s2 → Γ'.pan ch s2) →
    V P Γ' rest (s.put (some t) (.fnc (.func g) (caps.map (opd s)))) (RunK P Γ' (EndD P Γ.base fn post g (caps.map (opd s))) .done)) :
  V P Γ (Hold (.seq (.region id #[{ dst := some t, op := .makeFunc (.func g) #[] caps.toArray, type := type, pos := pos, after := after, guard := none },
   { dst := none, op := .defer { callee := .value (.tmp t), args := #[], argTypes := ts }, type := type2, pos := pos2, after := after2, guard := none }] false) rest)) s (RunK P Γ Q kt) := by
 rw [hold_eq]
 intro K a w hin hs
 refine wp_seq (wp_region_lit ?_)
 have hrep : RepL K (caps.map (opd s)) (caps.map a.eval).toArray := ⟨by simp, fun j d hj => by have := listRep hs caps j d hj; simpa using this⟩
 have hfv : Rep K (.fnc (.func g) (caps.map (opd s))) (.func (.func g) #[] (caps.map a.eval).toArray) := .fnc _ _ _ (by simp) (listRep hs caps)
 have hts : t < a.tmps.size := by rw [hs.size]; exact ht
 refine wpList_plain rfl fun K1 hK1 => ?_
 have hrun1 : (execOp a.eval { dst := some t, op := .makeFunc (.func g) #[] caps.toArray, type := type, pos := pos, after := after, guard := none }).run P w = .ok (.value (.func (.func g) #[] (caps.map a.eval).toArray)) w := by
  simp [execOp, Instr.makeFunc]
 unfold Oper.wp
 rw [hrun1]
 refine hK1 _ _ (wpList_plain rfl fun K2 hK2 => ?_)
 generalize ha1 : (a.put (some t) (.func (.func g) #[] (caps.map a.eval).toArray)) = a1
 have hev : a1.eval (.tmp t) = .func (.func g) #[] (caps.map a.eval).toArray := by
  subst ha1
  simp [Act.eval, Act.put, hts]
 have hrun2 : (execOp a1.eval { dst := none, op := .defer { callee := .value (.tmp t), args := #[], argTypes := ts }, type := type2, pos := pos2, after := after2, guard := none }).run P w = .ok (.defer { target := .fn (.func g) (caps.map a.eval).toArray, args := #[] }) w := by
  simp [execOp, resolve, hev, Deferred.ofValue]
 unfold Oper.wp
 rw [hrun2]
 refine hK2 _ _ ?_
 let Γ' : Ctx := ⟨⟨Γ.own.own, [{ target := .fn (.func g) (caps.map a.eval).toArray, args := #[] }]⟩, K, s.next, w, fun ch s2 => LeaveD P Γ.base fn post g (caps.map (opd s)) (.panicking ch) s2, fun _ _ _ => False⟩
 have hin' : In Γ' K w := ⟨.refl _, hs.hdr, fun b o v e => .inl e, fun b hb => hin.own_of_ge hb, rfl, rfl, rfl, Nat.le_refl _, fun _ _ => rfl⟩
 have hs1 : Sim K Γ.own (s.put (some t) (.fnc (.func g) (caps.map (opd s)))) a1 w := by
  subst ha1
  exact hs.put (by simpa [putOK] using ht) hfv
 have hs' : Sim K Γ'.own (s.put (some t) (.fnc (.func g) (caps.map (opd s)))) (({ a1 with defers := { target := .fn (.func g) (caps.map a.eval).toArray, args := #[] } :: a1.defers } : Act).put none undef) w :=
  ⟨hs1.sat, by have := hs1.defers; rw [hd] at this; show _ :: a1.defers = _; rw [this], hs1.size, hs1.env, hs1.hdr⟩
 refine wp_mono (h Γ' rfl (fun ch s2 h => h) K _ w hin' hs') ?_
 rintro e a' w' (⟨K', s', h1, h2, h3⟩ | h3)
 ·have hdf : a'.defers = [{ target := .fn (.func g) (caps.map a.eval).toArray, args := #[] }] := h2.defers
  have go : ∀ u, u ≠ .run → LeaveD P Γ.base fn post g (caps.map (opd s)) u s' → Leaves P fn a'.tmps (RX Γ.base post) a'.defers u w' := fun u hu hl => by
   rw [hdf]
   exact leaveD_run hu hl hin h1 h2 rfl rfl hs.hdr rfl hc _ hrep
  cases e with
  | panic ch => exact .inr ⟨trivial, hesc _ _ _ (go (.panicking ch) (by simp) h3)⟩
  | ret => exact .inr ⟨trivial, hesc _ _ _ (go .returning (by simp) h3.2)⟩
  | normal => exact absurd h3.1 (by simp)
  | exit i => exact absurd h3.1 (by simp)
  | goto i => exact absurd h3.1 (by simp)
  | outgrown => exact absurd h3.1 (by simp)
 ·exact h3.2.elim
def HS (P : Program) (Γ : Ctx) : List Oper → St → (St → Prop) → Prop
 | [], s, k => k s
 | o :: l, s, k => o.guard = none ∧ hstep P Γ o.dst o.op s fun s' => HS P Γ l s' k
theorem hs_ops {P Γ cs} {Q : Exit → Act → List Frame → World → Prop} {k : St → Prop} (ops : Array Oper) : ∀ (l : List Oper) (i : Nat) (s : St) (K : Kr) (a : Act) (w : World), (∀ j, ops[i + j]? = l[j]?) → HS P Γ l s k → In Γ K w → Sim K Γ.own s a w →
  (∀ K' a' w' s', In Γ K' w' → Sim K' Γ.own s' a' w' → k s' → Q .normal a' cs w') → (∀ ch K' a' w' s', In Γ K' w' → Sim K' Γ.own s' a' w' → Γ.pan ch s' → Q (.panic ch) a' cs w') →
  wpOpsS P ops Q (List.range' i l.length) a cs w
 | [], i, s, K, a, w, _, h, hin, hs, hQ, _ => by simpa [wpOpsS] using hQ K a w s hin hs h
 | o :: l, i, s, K, a, w, ho, h, hin, hs, hQ, hP => by
  have h0 : ops[i]? = some o := by simpa using ho 0
  obtain ⟨hg, hst⟩ := h
  rw [List.length_cons, List.range'_succ]
  unfold wpOpsS
  rw [h0]
  simp only [Region.wanted, hg, if_true]
  have hw := hstep_effG hst K a w hin hs (fun a' w' => wpOpsS P ops Q (List.range' (i + 1) l.length) a' cs w') (fun e a' w' => Q e a' cs w')
   (fun K' a' w' s' h1 h2 h3 => hs_ops ops l (i + 1) s' K' a' w' (fun j => by have := ho (j + 1); simpa [Nat.add_assoc, Nat.add_comm 1 j] using this) h3 h1 h2 hQ hP) hP
  unfold Oper.wp at hw
  split
  ·rename_i w' hr
   rw [hr] at hw
   exact hw.elim
  ·exact hw
/-- What recover hands out, and how the frame below goes on. -/
def recU : FrameMode → Value × FrameMode
 | .panicking ({ v, recovered := false, goexit := false } :: older) => (v, .panicking ({ v, recovered := true } :: older))
 | u => (.nilIface, u)
def EndR (Γ : Ctx) (post : FrameMode → List (Nat × Ob) → Nat → Prop) (u' : FrameMode) (e : Exit) (s : St) : Prop := (e = .normal ∨ e = .ret) ∧ ∃ s', Wk Γ s s' ∧ Γ.n0 ≤ s'.next ∧ post u' s'.obs s'.next
theorem RetDf.of_body {P g fn caps obs nx u post id x type pos after l rest} (hf : P.funcs[g]? = some fn)
  (hb : fn.body = some (.seq (.region id ({ dst := some x, op := .call { callee := .builtin .recover, args := #[], argTypes := #[] }, type := type, pos := pos, after := after, guard := none } :: l : List Oper).toArray false) rest))
  (hn : caps.length ≤ fn.ntmps) (hx : x < fn.ntmps) (hres : fn.results = #[])
  (h : ∀ Γ : Ctx, Γ.n0 = nx → HS P Γ l ((entry caps fn.ntmps obs nx).put (some x) (.u (.oth (recU u).1))) fun s' => V P Γ rest s' (RunK P Γ (EndR Γ post (recU u).2) .done)) : RetDf P g caps obs nx u post := by
 intro k own w vs hsat hhdr hfresh hrep
 have hsz : vs.size = caps.length := hrep.1
 let Γ : Ctx := .of own k nx w
 have hin : In Γ k w := ⟨.refl _, hhdr, fun b o v e => .inl e, hfresh, rfl, rfl, rfl, Nat.le_refl _, fun _ _ => rfl⟩
 have hs : Sim k Γ.own (entry caps fn.ntmps obs nx) { tmps := vs ++ Array.replicate (fn.ntmps - vs.size) undef, defers := [] } w := by
  refine ⟨hsat, rfl, ?_, fun y d hy => ?_, hhdr⟩
  ·simp [entry, hsz]; omega
  ·simp only [entry, getK_zipIdx, Nat.zero_le, if_true, Nat.sub_zero] at hy
   have hlt := (List.getElem?_eq_some_iff.1 hy).1
   refine ⟨by simp [entry]; omega, ?_⟩
   have := hrep.2 y d hy
   have e : (vs ++ Array.replicate (fn.ntmps - vs.size) undef).getD y undef = vs.getD y undef := by
    simp [Array.getElem?_append, show y < vs.size by omega]
   rw [e]
   exact this
 refine callsD_of_wpS hf hb fun c0 cs hm => wpS_seq (wpS_region ?_)
 have hsize : ({ dst := some x, op := .call { callee := .builtin .recover, args := #[], argTypes := #[] }, type := type, pos := pos, after := after, guard := none } :: l : List Oper).toArray.size = l.length + 1 := by simp
 rw [hsize, List.range_eq_range', List.range'_succ]
 generalize hops : ({ dst := some x, op := .call { callee := .builtin .recover, args := #[], argTypes := #[] }, type := type, pos := pos, after := after, guard := none } :: l : List Oper).toArray = ops
 have h0 : ops[0]? = some { dst := some x, op := .call { callee := .builtin .recover, args := #[], argTypes := #[] }, type := type, pos := pos, after := after, guard := none } := by rw [← hops]; simp
 unfold wpOpsS
 rw [h0]
 have hrun : ∀ ρ : Operand → Value, (execOp ρ { dst := some x, op := .call { callee := .builtin .recover, args := #[], argTypes := #[] }, type := type, pos := pos, after := after, guard := none }).run P w = .ok .recover w := fun ρ => by
  simp [execOp, resolve, invoke, builtin]
 simp only [Region.wanted, if_true, hrun]
 have hrec : recoverD (c0 :: cs) = some ((recU u).1, { c0 with mode := (recU u).2 } :: cs) ∨ (recoverD (c0 :: cs) = none ∧ (recU u).1 = .nilIface ∧ { c0 with mode := (recU u).2 } = c0) := by
  subst hm
  have same : ∀ m, c0.mode = m → ({ c0 with mode := m } : Frame) = c0 := fun m h => by rw [← h]
  cases hmo : c0.mode with
  | run => exact .inr ⟨by simp [recoverD, hmo], rfl, same _ hmo⟩
  | returning => exact .inr ⟨by simp [recoverD, hmo], rfl, same _ hmo⟩
  | panicking ch =>
   cases ch with
   | nil => exact .inr ⟨by simp [recoverD, hmo], rfl, same _ hmo⟩
   | cons e older =>
    obtain ⟨v, r, g⟩ := e
    cases r <;> cases g
    ·exact .inl (by simp [recoverD, hmo, recU])
    ·exact .inr ⟨by simp [recoverD, hmo], rfl, same _ hmo⟩
    ·exact .inr ⟨by simp [recoverD, hmo], rfl, same _ hmo⟩
    ·exact .inr ⟨by simp [recoverD, hmo], rfl, same _ hmo⟩
 have main : wpOpsS P ops (Exit.thenS (rest.wpS P (bodyPostS P fn c0 cs fun e u' w' => ∃ v obs' nx' k', e = .returned v ∧ In (.of own k nx w) k' w' ∧ Sat k' own obs' w' ∧ (∀ i, nx' ≤ i → k'.hdr i = none) ∧ nx ≤ nx' ∧ post u' obs' nx'))
   (bodyPostS P fn c0 cs fun e u' w' => ∃ v obs' nx' k', e = .returned v ∧ In (.of own k nx w) k' w' ∧ Sat k' own obs' w' ∧ (∀ i, nx' ≤ i → k'.hdr i = none) ∧ nx ≤ nx' ∧ post u' obs' nx')) (List.range' (0 + 1) l.length)
   (Act.put { tmps := vs ++ Array.replicate (fn.ntmps - vs.size) undef, defers := [] } (some x) (recU u).1) ({ c0 with mode := (recU u).2 } :: cs) w := by
  refine hs_ops ops l (0 + 1) _ k _ w (fun j => by rw [← hops]; simp [Nat.add_comm 1 j]) (h Γ rfl) hin (hs.put (by simpa [putOK, entry] using hx) (.u _ _ (.oth _))) (fun K' a' w' s' h1 h2 h3 => ?_) (fun ch K' a' w' s' _ _ h3 => h3.elim)
  refine wpS_of_wp (wp_mono (h3 K' a' w' h1 h2) ?_)
  rintro e a2 w2 (⟨K2, s2, g1, g2, g3⟩ | g3)
  ·have hd2 : a2.defers = [] := g2.defers
   have fin : EndR Γ post (recU u).2 e s2 → a2.defers = [] ∧ ∃ u', ({ c0 with mode := (recU u).2 } :: cs : List Frame) = { c0 with mode := u' } :: cs ∧ ∃ v, (results fn a2.tmps).run P w2 = .ok v w2 ∧
     ∃ v' obs' nx' k', Ending.returned v = .returned v' ∧ In (.of own k nx w) k' w2 ∧ Sat k' own obs' w2 ∧ (∀ i, nx' ≤ i → k'.hdr i = none) ∧ nx ≤ nx' ∧ post u' obs' nx' := fun ⟨_, s3, hw, hnx, hp⟩ => by
    obtain ⟨K3, q1, q2⟩ := hw K2 a2 w2 g1 g2
    exact ⟨hd2, _, rfl, .tuple #[], by simp [results, hres], _, s3.obs, s3.next, K3, rfl, q1, q2.sat, q2.hdr, hnx, hp⟩
   cases e with
   | normal => exact fin g3
   | ret => exact fin g3
   | panic ch => exact g3.elim
   | exit i => rcases g3.1 with h | h <;> cases h
   | goto i => rcases g3.1 with h | h <;> cases h
   | outgrown => rcases g3.1 with h | h <;> cases h
  ·exact g3.2.elim
 rcases hrec with hr | ⟨hr, h1, h2⟩
 ·rw [hr]
  exact main
 ·rw [hr]
  rw [h1, h2] at main
  exact main
end Go.VL
namespace Go.VL
open Go
/-- A call that is sure to panic, wherever its operands and objects are az here. -/
def StopE (P : Program) (Γ : Ctx) (s : St) (op : Op) : Prop :=
 ∀ s' : St, s'.n = s.n → (∀ y, getK s'.obs y = getK s.obs y) → (∀ x ∈ op.operands, opd s' x = opd s x) → s.next ≤ s'.next → ∀ o : Oper, o.op = op → o.guard = none → putOK o.dst s' → EffP P Γ o s' fun _ => False
/-- A call that changes the objects it is handed, and makes none. -/
def CallE (P : Program) (N : Nat) (s : St) (op : Op) (d : D) (W : Wr) (R : List Nat) : Prop :=
 ∃ fop args f caps, ∃ (O O' : List (Nat × Ob)) (L : List Nat), callOf op = some (fop, args) ∧ calleeOf (opd s fop) = some (f, caps) ∧ callable P f = true ∧ R = O.map (·.1) ∧ W = (O'.filter fun p => L.contains p.1).map (fun p => (p.1, some p.2)) ∧ O'.map (·.1) = O.map (·.1) ∧
  (∀ y, L.contains y = false → getK O' y = getK O y) ∧ (∀ p ∈ O, getK s.obs p.1 = some p.2) ∧ (O.map (·.1)).Nodup ∧ (d.under N = true ∧ ∀ p ∈ O', p.2.under N = true) ∧
  ∀ nx, s.next ≤ nx → RetX P f (args.map (opd s) ++ caps) O nx fun r o n => r = .val d ∧ (∀ y, getK o y = getK O' y) ∧ n = nx
def Op1X (P : Program) (N : Nat) (s : St) (op : Op) (dst : Option Tmp) (d : D) (W : Wr) (cr : Option Nat) (R : List Nat) : Prop :=
 Op1 P s op dst d W cr R ∨ (CallE P N s op d W R ∧ cr = none)
def OpGX (P : Program) (N : Nat) (all : Array Oper) (s : St) (o : Oper) (d : D) (W : Wr) (cr : Option Nat) (R : List Nat) : Prop :=
 match o.guard with
 | none => Op1X P N s o.op o.dst d W cr R
 | some (j, want) => ∃ t, guardTmp all j = some t ∧ ((∃ b, getK s.env t = some (.u (.bool b)) ∧
  if b = want then Op1X P N s o.op o.dst d W cr R else d = .un ∧ W = [] ∧ cr = none) ∨ (getK s.env t = some .un ∧ d = .un ∧ W = [] ∧ cr = none))
theorem getK_filterN {α : Type} (l : List (Nat × α)) (c : List Nat) (y : Nat) : getK (l.filter fun p => !c.contains p.1) y = if c.contains y = true then none else getK l y := by
 induction l with
 | nil => simp [getK]
 | cons p l ih =>
  obtain ⟨k, x⟩ := p
  rw [List.filter_cons]
  by_cases hk : c.contains k = true
  ·rw [if_neg (by simpa using hk), ih, getK_cons]
   by_cases hy : y = k
   ·subst hy; rw [if_pos hk, if_pos hk]
   ·rw [if_neg hy]
  ·rw [if_pos (by simpa using hk), getK_cons, getK_cons, ih]
   by_cases hy : y = k
   ·subst hy; rw [if_pos rfl, if_pos rfl, if_neg hk]
   ·rw [if_neg hy, if_neg hy]
theorem getK_filterK {α : Type} (l : List (Nat × α)) (c : List Nat) (y : Nat) : getK (l.filter fun p => c.contains p.1) y = if c.contains y = true then getK l y else none := by
 induction l with
 | nil => simp [getK]
 | cons p l ih =>
  obtain ⟨k, x⟩ := p
  rw [List.filter_cons]
  by_cases hk : c.contains k = true
  ·rw [if_pos (by exact hk), getK_cons, getK_cons, ih]
   by_cases hy : y = k
   ·subst hy; rw [if_pos rfl, if_pos rfl, if_pos hk]
   ·rw [if_neg hy, if_neg hy]
  ·rw [if_neg (by exact hk), ih, getK_cons]
   by_cases hy : y = k
   ·subst hy; rw [if_neg hk, if_neg hk]
   ·rw [if_neg hy]
theorem getK_memK {α : Type} {l : List (Nat × α)} {y : Nat} {x : α} (h : getK l y = some x) : (y, x) ∈ l := by
 induction l with
 | nil => cases h
 | cons p l ih =>
  obtain ⟨k, d⟩ := p
  rw [getK_cons] at h
  by_cases hyk : y = k
  ·rw [if_pos hyk] at h; cases h; subst hyk; simp
  ·rw [if_neg hyk] at h; exact List.mem_cons_of_mem _ (ih h)
theorem getK_isSome {α : Type} {l : List (Nat × α)} {y : Nat} (h : y ∈ l.map (·.1)) : ∃ x, getK l y = some x := by
 induction l with
 | nil => cases h
 | cons p l ih =>
  obtain ⟨k, d⟩ := p
  rw [getK_cons]
  by_cases hyk : y = k
  ·exact ⟨d, by rw [if_pos hyk]⟩
  ·rw [if_neg hyk]
   simp only [List.map_cons, List.mem_cons] at h
   exact ih (h.resolve_left hyk)
theorem getK_some_map (O : List (Nat × Ob)) (y : Nat) : getK (O.map fun p => (p.1, some p.2) : Wr) y = (getK O y).map some := by
 induction O with
 | nil => rfl
 | cons p l ih =>
  obtain ⟨k, d⟩ := p
  rw [List.map_cons, getK_cons, getK_cons, ih]
  split <;> rfl
theorem good_under {ρ : Nat → Nat} {N M : Nat} (hρ : ∀ y, y < N → ρ y = y) (hNM : N ≤ M) : ∀ {d : D}, d.under N = true → Good ρ M d
 | .u x, _ => ⟨by simp [D.ren], by simp [D.under]⟩
 | .any, _ => ⟨by simp [D.ren], by simp [D.under]⟩
 | .ptr i off, h => by simp [D.under] at h; exact ⟨by simp [D.ren, hρ i h], by simp [D.under]; omega⟩
 | .vec i len, h => by simp [D.under] at h; exact ⟨by simp [D.ren, hρ i h], by simp [D.under]; omega⟩
 | .mp i, h => by simp [D.under] at h; exact ⟨by simp [D.ren, hρ i h], by simp [D.under]; omega⟩
 | .elt i sz idx off, h => by simp [D.under] at h; exact ⟨by simp [D.ren, hρ i h], by simp [D.under]; omega⟩
 | .fnc f caps, h => by
  have hc : ∀ c ∈ caps, Good ρ M c := fun c hc => good_under hρ hNM (by rw [D.under] at h; simp only [List.all_map, List.all_eq_true] at h; exact h c hc)
  refine ⟨by rw [D.ren]; congr 1; exact (List.map_congr_left fun c hc' => (hc c hc').1).trans (List.map_id _), ?_⟩
  rw [D.under]
  simp only [List.all_map, List.all_eq_true]
  exact fun c hc' => (hc c hc').2
 | .agg caps, h => by
  have hc : ∀ c ∈ caps, Good ρ M c := fun c hc => good_under hρ hNM (by rw [D.under] at h; simp only [List.all_map, List.all_eq_true] at h; exact h c hc)
  refine ⟨by rw [D.ren]; congr 1; exact (List.map_congr_left fun c hc' => (hc c hc').1).trans (List.map_id _), ?_⟩
  rw [D.under]
  simp only [List.all_map, List.all_eq_true]
  exact fun c hc' => (hc c hc').2
 | .tup caps, h => by
  have hc : ∀ c ∈ caps, Good ρ M c := fun c hc => good_under hρ hNM (by rw [D.under] at h; simp only [List.all_map, List.all_eq_true] at h; exact h c hc)
  refine ⟨by rw [D.ren]; congr 1; exact (List.map_congr_left fun c hc' => (hc c hc').1).trans (List.map_id _), ?_⟩
  rw [D.under]
  simp only [List.all_map, List.all_eq_true]
  exact fun c hc' => (hc c hc').2
theorem ob_good_under {ρ : Nat → Nat} {N M : Nat} (hρ : ∀ y, y < N → ρ y = y) (hNM : N ≤ M) {ob : Ob} (h : ob.under N = true) : ob.all (Good ρ M) := by
 cases ob with
 | it => trivial
 | box cs => exact fun c hc => good_under hρ hNM ((List.all_eq_true.1 h) c hc)
 | vec e sz rows => exact fun r hr c hc => good_under hρ hNM ((List.all_eq_true.1 ((List.all_eq_true.1 h) r hr)) c hc)
 | map kk ag es => exact fun p hp c hc => good_under hρ hNM ((List.all_eq_true.1 ((List.all_eq_true.1 h) p hp)) c hc)
/-- What comes before stands before. -/
theorem befB_lt {ops : List Oper} (hord : ordOK ops = true) : ∀ {i j : Nat} {y : Oper}, ops[j]? = some y → befB ops ops.length i j = true → i < j := by
 have key : ∀ (n i j : Nat) (y : Oper), ops[j]? = some y → befB ops n i j = true → i < j := by
  intro n
  induction n with
  | zero => intro i j y hj h; simp [befB] at h
  | succ n ih =>
   intro i j y hj h
   simp only [befB, hj] at h
   rw [List.any_eq_true] at h
   obtain ⟨p, hp, h⟩ := h
   have hlt := (ord_pred hord hj).1 p hp
   simp only [Bool.or_eq_true, beq_iff_eq] at h
   rcases h with rfl | h
   ·exact hlt
   ·have hpl : p < ops.length := by have := (List.getElem?_eq_some_iff.1 hj).1; omega
    have := ih i p _ (List.getElem?_eq_getElem hpl) h
    omega
 exact fun {i j y} hj h => key _ i j y hj h
theorem EffP.guard {P Γ s k} {dst op type pos after guard} (h : EffP P Γ { dst, op, type, pos, after, guard := none } s k) : EffP P Γ { dst, op, type, pos, after, guard } s k := h
set_option maxHeartbeats 4000000 in
theorem V_draw4 {P Γ} {Q : Exit → St → Prop} {kt : Kt} {id : Nat} {ops : List Oper} {T : Nat → D} {W : Nat → Wr} {cr : Nat → Option Nat} {R : Nat → List Nat} {kd : Nat → Nat} {s : St} {M : Nat}
  (hm : P.follows .mixedOrders = true) (hord : ordOK ops = true) (hn0 : Γ.n0 ≤ s.next) (hM : s.next ≤ M)
  (hcr : ∀ i x, cr i = some x → s.next ≤ x ∧ x < M) (hcr1 : ∀ i j x, cr i = some x → cr j = some x → i = j)
  (hpair : ∀ i j, i < j → j < ops.length → befB ops ops.length i j = false → (∀ y ∈ keys (W i), y ∉ R j ∧ y ∉ keys (W j)) ∧ ∀ y ∈ keys (W j), y ∉ R i)
  (hkd : ∀ i, kd i ≠ 0 → W i = [] ∧ cr i = none) (hstop : ∀ p i, kd p = 1 → i < ops.length → W i ≠ [] → befB ops ops.length i p = true ∨ befB ops ops.length p i = true)
  (hval : ∀ i o, ops[i]? = some o → putOK o.dst s ∧ if kd i = 2 then ∃ p, kd p = 1 ∧ p < ops.length ∧ befB ops ops.length p i = true else if kd i = 1 then o.guard = none ∧ StopE P Γ (stW ops T W s M fun j => decide (j < i)) o.op else
    OpGX P s.next ops.toArray (stW ops T W s M fun j => decide (j < i)) o (T i) (W i) (cr i) (R i))
  (hfin : (∀ i, i < ops.length → kd i ≠ 1) → ∃ s', (stW ops T W s M fun _ => true).Eqo s' ∧ RunK P Γ Q kt .normal s') : V P Γ (.region id ops.toArray true) s (RunK P Γ Q kt) := by
 intro K a w hin hs
 refine wp_region_any hm ?_
 have hin0 : In Γ K { w with drawn := w.drawn + 1 } := ⟨hin.le, hin.none0, hin.memNew, hin.fresh, hin.os, hin.tape, hin.output, hin.size, hin.block⟩
 have hs0 : Sim K Γ.own s a { w with drawn := w.drawn + 1 } := ⟨⟨hs.sat.mem, fun i ob hi => by
   obtain ⟨h, h1, h2, h3⟩ := hs.sat.ob i ob hi
   exact ⟨h, h1, h2, h3.keep (.refl _) fun b e => rfl⟩, hs.sat.apart⟩, hs.defers, hs.size, hs.env, hs.hdr⟩
 generalize ({ w with drawn := w.drawn + 1 } : World) = w0 at hin0 hs0
 have key : ∀ (fuel : Nat) (listed : Array Bool) (K : Kr) (a : Act) (w : World), listed.size = ops.length → (listed.toList.filter (! ·)).length ≤ fuel →
   (∀ j y, ops[j]? = some y → listed.getD j false = true → ∀ p ∈ dirPred y, listed.getD p false = true) → In Γ K w → Sim K Γ.own (stW ops T W s M fun j => listed.getD j false) a w →
   (∀ j x, j < ops.length → listed.getD j false = false → cr j = some x → K.hdr x = none) → (∀ p, kd p = 1 → p < ops.length → listed.getD p false = false) →
   wpAny P .any ops.toArray (VPost Γ (RunK P Γ Q kt)) fuel listed a w := by
  have allDone : ∀ (listed : Array Bool) (K : Kr) (a : Act) (w : World), (∀ p, kd p = 1 → p < ops.length → listed.getD p false = false) → (∀ j, j < ops.length → listed.getD j false = true) → In Γ K w → Sim K Γ.own (stW ops T W s M fun j => listed.getD j false) a w →
    ∃ K' s', In Γ K' w ∧ Sim K' Γ.own s' a w ∧ RunK P Γ Q kt .normal s' := fun listed K a w hsp hall hin hs => by
   obtain ⟨s', he, hfin⟩ := hfin fun i hi hk => by have h1 := hsp i hk hi; rw [hall i hi] at h1; cases h1
   refine ⟨K, _, hin, Sim.eqo (hs.eqo ?_) he, hfin⟩
   refine ⟨rfl, fun x => ?_, rfl, fun x => ?_⟩
   ·simp only [stW, getK_applyW]
    rw [wlog_congr W _ (fun _ => true) x ops.length fun j hj _ => hall j hj]
   ·exact envF_congr T _ _ x ops 0 s.env s.env rfl fun j o hj _ => by
     have hl := (List.getElem?_eq_some_iff.1 hj).1
     simp only [Nat.zero_add]
     exact hall j hl
  have least : ∀ (listed : Array Bool), listed.size = ops.length → ∀ i, i < ops.length → listed.getD i false = false → ∃ i0, i0 ∈ Region.ready .any ops.toArray listed := fun listed hsz i hi hu => by
   induction i using Nat.strongRecOn with
   | _ i ih =>
    have ho : ops[i]? = some ops[i] := List.getElem?_eq_getElem hi
    by_cases hp : ∀ p ∈ dirPred ops[i], listed.getD p false = true
    ·refine ⟨i, mem_ready.2 ⟨?_, ops[i], by simp, fun e he hb => hp e.on ?_⟩⟩
     ·have hi' : i < listed.size := by omega
      simp [hi'] at hu ⊢
      exact hu
     ·simp only [dirPred, List.mem_map, List.mem_filter]
      exact ⟨e, ⟨by simpa using he, hb⟩, rfl⟩
    ·simp only [Classical.not_forall] at hp
     obtain ⟨p, hpm, hpu⟩ := hp
     have hlt := (ord_pred hord ho).1 p hpm
     exact ih p hlt (by omega) (by simpa using hpu)
  intro fuel
  induction fuel with
  | zero =>
   intro listed K a w hsz hcnt hcl hin hs _ hsp
   have hall : ∀ j, j < ops.length → listed.getD j false = true := fun j hj => by
    have hj' : j < listed.size := by omega
    have h0 : (listed.toList.filter (! ·)) = [] := List.eq_nil_of_length_eq_zero (by omega)
    have := (List.filter_eq_nil_iff.1 h0) listed[j] (by simp)
    simp only [Bool.not_eq_true', Bool.not_eq_false] at this
    simp [hj', this]
   refine ⟨?_, .inl (allDone listed K a w hsp hall hin hs)⟩
   refine List.eq_nil_iff_forall_not_mem.2 fun i hi => ?_
   obtain ⟨h1, o, ho, _⟩ := mem_ready.1 hi
   have hl : i < ops.length := by
    have := (Array.getElem?_eq_some_iff.1 ho).1
    simpa using this
   have := hall i hl
   have hi' : i < listed.size := by omega
   simp [hi'] at h1 this
   rw [h1] at this
   cases this
  | succ fuel ih =>
   intro listed K a w hsz hcnt hcl hin hs hfr hsp
   refine ⟨fun hnil => .inl (allDone listed K a w hsp (fun j hj => ?_) hin hs), fun i hi => ?_⟩
   ·cases hu : listed.getD j false with
    | true => rfl
    | false =>
     obtain ⟨i0, h0⟩ := least listed hsz j hj hu
     rw [hnil] at h0
     cases h0
   ·obtain ⟨hun, o, ho, hall⟩ := mem_ready.1 hi
    have ho' : ops[i]? = some o := by simpa using ho
    have hil := (List.getElem?_eq_some_iff.1 ho').1
    have hil' : i < listed.size := by omega
    have hunf : listed.getD i false = false := by simp [hil'] at hun ⊢; exact hun
    have hpred : ∀ p ∈ dirPred o, listed.getD p false = true := fun p hp => by
     simp only [dirPred, List.mem_map, List.mem_filter] at hp
     obtain ⟨e, ⟨he, hb⟩, rfl⟩ := hp
     exact hall e (by simpa using he) hb
    obtain ⟨hpo, hv⟩ := hval i o ho'
    have bef1 : ∀ j, befB ops ops.length j i = true → listed.getD j false = true := fun j hb => bef_closed hcl _ j i o ho' hpred hb
    have bef2 : ∀ j x, ops[j]? = some x → befB ops ops.length i j = true → listed.getD j false = false := fun j x hj hb => by
     cases hu : listed.getD j false with
     | false => rfl
     | true =>
      have := bef_closed hcl _ i j x hj (hcl j x hj hu) hb
      rw [hunf] at this
      cases this
    -- who writes a slot that this operation looks at, or writes
    have before : ∀ j x, ops[j]? = some x → j < i → meets ops.toArray x o = true ∨ meets ops.toArray o x = true → listed.getD j false = true := fun j x hj hlt hmm =>
     bef1 j ((ord_pred hord ho').2.2 j x hlt hj hmm)
    have behind : ∀ j x, ops[j]? = some x → i < j → meets ops.toArray x o = true ∨ meets ops.toArray o x = true → listed.getD j false = false := fun j x hj hlt hmm =>
     bef2 j x hj ((ord_pred hord hj).2.2 i o hlt ho' hmm.symm)
    have agree : ∀ t, t ∈ o.looksAt ops.toArray → getK (envF T (fun j => listed.getD j false) ops 0 s.env) t = getK (envF T (fun j => decide (j < i)) ops 0 s.env) t := fun t ht => by
     refine envF_congr T _ _ t ops 0 s.env s.env rfl fun j x hj hx => ?_
     simp only [Nat.zero_add]
     have hmm : meets ops.toArray x o = true := by simp [meets, hx, ht]
     rcases Nat.lt_trichotomy j i with h | h | h
     ·rw [before j x hj h (.inl hmm)]; simp [h]
     ·subst h; rw [hunf]; simp
     ·rw [behind j x hj h (.inl hmm)]; simp; omega
    have hopd : ∀ x ∈ o.op.operands, opd (stW ops T W s M fun j => decide (j < i)) x = opd (stW ops T W s M fun j => listed.getD j false) x := fun x hx => by
     cases x with
     | tmp t =>
      simp only [opd, St.at, stW]
      rw [agree t (List.mem_append_left _ (List.mem_filterMap.2 ⟨.tmp t, by simpa using hx, rfl⟩))]
     | _ => rfl
    -- who changes an object that this operation looks at
    have hloc : ∀ y ∈ R i, getK (stW ops T W s M fun j => decide (j < i)).obs y = getK (stW ops T W s M fun j => listed.getD j false).obs y := fun y hy => by
     simp only [stW, getK_applyW]
     rw [wlog_congr W (fun j => decide (j < i)) (fun j => listed.getD j false) y ops.length fun j hj hk => ?_]
     rcases Nat.lt_trichotomy j i with h | h | h
     ·have hb : befB ops ops.length j i = true := by
       cases hb : befB ops ops.length j i with
       | true => rfl
       | false => exact absurd hy (((hpair j i h hil hb).1 y hk).1)
      rw [bef1 j hb]
      simp [h]
     ·subst h; rw [hunf]; simp
     ·have hb : befB ops ops.length i j = true := by
       cases hb : befB ops ops.length i j with
       | true => rfl
       | false => exact absurd hy ((hpair i j h hj hb).2 y hk)
      rw [bef2 j _ (List.getElem?_eq_getElem hj) hb]
      simp; omega
    have hlast : ∀ y ∈ keys (W i), ∀ j, j < ops.length → i < j → y ∈ keys (W j) → listed.getD j false = false := fun y hy j hj hlt hk => by
     have hb : befB ops ops.length i j = true := by
      cases hb : befB ops ops.length i j with
      | true => rfl
      | false => exact absurd hk ((hpair i j hlt hj hb).1 y hy).2
     exact bef2 j _ (List.getElem?_eq_getElem hj) hb
    have hS : (fun j => (listed.setIfInBounds i true).getD j false) = fun j => listed.getD j false || j == i := funext fun j => by
     by_cases hji : j = i
     ·subst hji; simp [hil']
     ·simp [Array.getElem?_setIfInBounds_ne (Ne.symm hji), hji]
    -- the slots behind this operation
    have henv : ∀ (x : Nat), o.dst = some x → getK (envF T (fun j => listed.getD j false || j == i) ops 0 s.env) x = some (T i) := fun x hdx =>
     envF_put T _ i x ops 0 s.env i o ho' (by omega) hdx fun j o' hj hlt hd' => by
      rw [Nat.zero_add]
      exact behind j o' hj hlt (.inl (by simp [meets, hd', hdx]))
    have henv' : ∀ (x : Nat), o.dst ≠ some x → getK (envF T (fun j => listed.getD j false || j == i) ops 0 s.env) x = getK (envF T (fun j => listed.getD j false) ops 0 s.env) x := fun x hdx =>
     envF_congr T _ (fun j => listed.getD j false) x ops 0 s.env s.env rfl fun j o' hj hd' => by
      simp only [Nat.zero_add]
      have : j ≠ i := fun e => by subst e; rw [ho'] at hj; cases hj; exact hdx hd'
      simp [this]
    -- an operation after one that panics is never ready
    by_cases hk2 : kd i = 2
    ·rw [if_pos hk2] at hv
     obtain ⟨p, hp1, hp2, hp3⟩ := hv
     have := bef1 p hp3
     rw [hsp p hp1 hp2] at this
     cases this
    rw [if_neg hk2] at hv
    by_cases hk1 : kd i = 1
    ·rw [if_pos hk1] at hv
     obtain ⟨hg, hst⟩ := hv
     unfold wpOp
     rw [ho]
     simp only [Region.wanted, hg, if_true]
     refine .inl (hst (stW ops T W s M fun j => listed.getD j false) rfl (fun y => ?_) (fun x hx => (hopd x hx).symm) (Nat.le_refl _) o rfl hg hpo K a w hin hs _ _ (fun _ _ _ _ _ _ h => h.elim) fun ch K' a' w' s' h1 h2 h3 => .inl ⟨K', s', h1, h2, h3⟩)
     simp only [stW, getK_applyW]
     rw [wlog_congr W (fun j => listed.getD j false) (fun j => decide (j < i)) y ops.length fun j hj hk => ?_]
     have hne : W j ≠ [] := fun e => by rw [e] at hk; cases hk
     rcases hstop i j hk1 hj hne with hb | hb
     ·have h1 := bef1 j hb
      have hji : j < i := by
       rcases Nat.lt_trichotomy j i with h | h | h
       ·exact h
       ·subst h; rw [hunf] at h1; cases h1
       ·have := befB_lt hord ho' hb; omega
      rw [h1]; simp [hji]
     ·have h1 := bef2 j _ (List.getElem?_eq_getElem hj) hb
      have hji : ¬ j < i := by have := befB_lt hord (List.getElem?_eq_getElem hj) hb; omega
      rw [h1]; simp [hji]
    rw [if_neg hk1] at hv
    have go : ∀ K' a' w', In Γ K' w' → Sim K' Γ.own (stW ops T W s M fun j => listed.getD j false || j == i) a' w' →
      (∀ j x, j < ops.length → (listed.getD j false || j == i) = false → cr j = some x → K'.hdr x = none) →
      wpAny P .any ops.toArray (VPost Γ (RunK P Γ Q kt)) fuel (listed.setIfInBounds i true) a' w' := fun K' a' w' h1 h2 h3 => by
     have hS' : ∀ j, (listed.setIfInBounds i true).getD j false = (listed.getD j false || j == i) := fun j => congrFun hS j
     refine ih (listed.setIfInBounds i true) K' a' w' (by simp [hsz]) ?_ (fun j y hj hSj p hp => ?_) h1 (by rw [hS]; exact h2) (fun j x hj hu => h3 j x hj (by rw [← hS']; exact hu)) (fun p hp1 hp2 => by
      rw [hS', hsp p hp1 hp2]
      have : p ≠ i := fun e => hk1 (e ▸ hp1)
      simp [this])
     ·have cnt : ∀ (l : List Bool) (n : Nat), l[n]? = some false → ((l.set n true).filter (! ·)).length + 1 = (l.filter (! ·)).length := by
       intro l
       induction l with
       | nil => intro n h; simp at h
       | cons b l ih =>
               intro n h
               cases n with
               | zero => simp at h; subst h; simp
               | succ n =>
                have := ih n (by simpa using h)
                cases b <;> simp at this ⊢ <;> omega
      have := cnt listed.toList i (by
       rw [Array.getElem?_toList, Array.getElem?_eq_getElem hil']
       simp [hil'] at hunf
       rw [hunf])
      rw [Array.toList_setIfInBounds]
      omega
     ·rw [hS'] at hSj ⊢
      simp only [Bool.or_eq_true, beq_iff_eq] at hSj ⊢
      rcases hSj with hSj | rfl
      ·exact .inl (hcl j y hj hSj p hp)
      ·rw [ho'] at hj
       cases hj
       exact .inl (hpred p hp)
    -- an operation that changes nothing
    have next : W i = [] → ∀ K' v w', In Γ K' w' → K.le K' → K'.hdr = K.hdr → Sat K' Γ.own (stW ops T W s M fun j => listed.getD j false).obs w' → Rep K' (T i) v →
      wpAny P .any ops.toArray (VPost Γ (RunK P Γ Q kt)) fuel (listed.setIfInBounds i true) (a.put o.dst v) w' := fun hW K' v w' h1 h2 h3 h4 h5 => by
     refine go K' _ w' h1 ?_ fun j x hj hu hc => by
      rw [h3]
      simp only [Bool.or_eq_false_iff] at hu
      exact hfr j x hj hu.1 hc
     have hdef : (a.put o.dst v).defers = Γ.own.dfr := by cases o.dst <;> exact hs.defers
     have hsize : (a.put o.dst v).tmps.size = s.n := by
      have hsz2 : a.tmps.size = s.n := hs.size
      cases o.dst <;> simp [Act.put, hsz2]
     refine ⟨h4.eqo fun y => ?_, hdef, hsize, fun x d hx => ?_, fun j hj => by rw [h3]; exact hs.hdr j hj⟩
     ·simp only [stW, getK_applyW]
      rw [wlog_congr W (fun j => listed.getD j false) (fun j => listed.getD j false || j == i) y ops.length fun j hj hk => ?_]
      by_cases hji : j = i
      ·subst hji; rw [hW] at hk; cases hk
      ·simp [hji]
     ·simp only [stW] at hx
      by_cases hdx : o.dst = some x
      ·rw [henv x hdx] at hx
       cases hx
       have hlt : x < s.n := by rw [hdx] at hpo; exact hpo
       refine ⟨hlt, ?_⟩
       have hsz' : a.tmps.size = s.n := hs.size
       rw [hdx]
       simpa [Act.put, hsz', hlt] using h5
      ·rw [henv' x hdx] at hx
       obtain ⟨g1, g2⟩ := hs.env x d hx
       refine ⟨g1, ?_⟩
       have e : (a.put o.dst v).tmps.getD x undef = a.tmps.getD x undef := by
               cases hd : o.dst with
               | none => rfl
               | some y =>
                have hne : y ≠ x := fun e => hdx (by rw [hd, e])
                simp [Act.put, Array.getElem?_setIfInBounds_ne hne]
       rw [e]
       exact g2.mono h2
    unfold wpOp
    rw [ho]
    simp only
    have two : (Region.wanted o (yielded ops.toArray a.tmps) = true ∧ Op1X P s.next (stW ops T W s M fun j => decide (j < i)) o.op o.dst (T i) (W i) (cr i) (R i)) ∨ (Region.wanted o (yielded ops.toArray a.tmps) = false ∧ T i = .un ∧ W i = []) := by
     unfold OpGX at hv
     split at hv
     ·rename_i hg
      exact .inl ⟨by simp [Region.wanted, hg], hv⟩
     ·rename_i j want hg
      obtain ⟨t, ht, hv⟩ := hv
      have lift : ∀ dd, getK (stW ops T W s M fun j => decide (j < i)).env t = some dd → getK (stW ops T W s M fun j => listed.getD j false).env t = some dd := fun dd hb => by
       simp only [stW] at hb ⊢
       rw [agree t (by
               refine List.mem_append_right _ ?_
               unfold guardTmp at ht
               simp only [hg]
               rw [ht]
               simp)]
       exact hb
      rcases hv with ⟨b, hb, hv⟩ | ⟨hb, hv⟩
      ·have hb' := lift _ hb
       obtain ⟨hlt, hr⟩ := hs.getK hb'
       have hbv := rep_bool hr
       have hyd : yielded ops.toArray a.tmps j = some b := by
               unfold yielded
               unfold guardTmp at ht
               rw [ht]
               simp only [Option.bind_some]
               have : a.tmps[t]? = some (.bool b) := by
                rw [Array.getElem?_eq_getElem hlt]
                simp [hlt] at hbv
                rw [hbv]
               rw [this]
       by_cases hbw : b = want
       ·rw [if_pos hbw] at hv
        exact .inl ⟨by simp [Region.wanted, hg, hyd, hbw], hv⟩
       ·rw [if_neg hbw] at hv
        exact .inr ⟨by simp [Region.wanted, hg, hyd, hbw], hv.1, hv.2.1⟩
      ·have hb' := lift _ hb
       obtain ⟨hlt, hr⟩ := hs.getK hb'
       have hbv := rep_oth hr
       have hyd : yielded ops.toArray a.tmps j = none := by
               unfold yielded
               unfold guardTmp at ht
               rw [ht]
               simp only [Option.bind_some]
               have : a.tmps[t]? = some undef := by
                rw [Array.getElem?_eq_getElem hlt]
                simp [hlt] at hbv
                rw [hbv]
               rw [this]
               try rfl
       exact .inr ⟨by simp [Region.wanted, hg, hyd], hv.1, hv.2.1⟩
    rcases two with ⟨hw, hv⟩ | ⟨hw, hv⟩
    ·rw [if_pos hw]
     rcases hv with (⟨hv, hW, hcn, hR⟩ | ⟨e, he, hR, hcase⟩) | ⟨⟨fop, args, f, caps, O, O', L, hco, hcf, hcb, hR, hW, hkeys, hsm, hO, hnd, ⟨hdu, hOu⟩, hret⟩, hcn⟩
     ·replace hv := valD_loc (s := stW ops T W s M fun j => decide (j < i)) (s' := stW ops T W s M fun j => listed.getD j false) (by rw [← hR]; exact hloc) hopd hv
      exact .inl (valD_run hv hin hs fun K' v w' h1 h2 h3 h4 h5 => next hW K' v w' h1 h2 h3 h4 h5)
     ·
      replace he := effD_loc (s := stW ops T W s M fun j => decide (j < i)) (s' := stW ops T W s M fun j => listed.getD j false) (by rw [← hR]; exact hloc) hopd he
      let un : Nat → Prop := fun y => ∃ j, j < ops.length ∧ (listed.getD j false || j == i) = false ∧ cr j = some y
      let ρ : Nat → Nat := fun y => open Classical in if cr i = some y then M else if un y then M + 1 + y else y
      have hknown : ∀ y h, K.hdr y = some h → ρ y = y ∧ y < M := fun y h hy => by
       have h1 : cr i ≠ some y := fun e => by rw [hfr i y hil hunf e] at hy; cases hy
       have h2 : ¬ un y := fun ⟨j, hj, hu, hc⟩ => by
               simp only [Bool.or_eq_false_iff] at hu
               rw [hfr j y hj hu.1 hc] at hy
               cases hy
       refine ⟨by simp only [ρ]; rw [if_neg h1, if_neg h2], ?_⟩
       rcases Nat.lt_or_ge y M with h | h
       ·exact h
       ·rw [hs.hdr y h] at hy; cases hy
      have hobs : ∀ y ob, getK (stW ops T W s M fun j => listed.getD j false).obs y = some ob → (ρ y = y ∧ y < M) ∧ ob.all (Good ρ M) := fun y ob hy => by
       have hok := hs.sat.ob y ob hy
       obtain ⟨h, h1, _⟩ := hok
       exact ⟨hknown y h h1, (hs.sat.ob y ob hy).good hknown⟩
      have hgood := effD_all (g := Good ρ M) (fun _ => ⟨by simp [D.ren], by simp [D.under]⟩) (fun cs h => h.agg) he (fun x hx => (opd_rep hs x).good hknown) (fun y ob hy => (hobs y ob hy).2)
      obtain ⟨e', he', ⟨rfl, hgU, hgN⟩⟩ := Lin.effD.2 _ hgood
      have he2 : effD P (stW ops T W s M fun j => listed.getD j false) o.op fun e => putOK o.dst (stW ops T W s M fun j => listed.getD j false) ∧ (e.nw = none → o.dst = none) ∧
               ((stW ops T W s M fun j => listed.getD j false).effS e o.dst) = (stW ops T W s M fun j => listed.getD j false).effS e' o.dst :=
       Lin.effD.1 _ _ (fun e hee => by
               subst hee
               refine ⟨hpo, fun hn => ?_, rfl⟩
               rw [hn] at hcase
               exact hcase.1) he
      refine .inl (hstep_effG (k := fun s' => s' = (stW ops T W s M fun j => listed.getD j false).effS e' o.dst) (effD_hstep he2) K a w hin hs _ _ (fun K' a' w' s' h1 h2 h3 => ?_) fun ch K' a' w' s' h1 h2 h3 => .inl ⟨K', s', h1, h2, h3⟩)
      subst h3
      have hle : St.Le Γ.n0 ρ ((stW ops T W s M fun j => listed.getD j false).effS e' o.dst) (stW ops T W s M fun j => listed.getD j false || j == i) := by
       have hWi : ∀ y, y ∈ keys (W i) → getK (wlog W (fun j => listed.getD j false || j == i) ops.length) y = getK (W i) y := fun y hy =>
               wlog_put W _ i y hy ops.length hil fun j hj hlt hk => hlast y hy j hj hlt hk
       have hWn : ∀ y, y ∉ keys (W i) → getK (wlog W (fun j => listed.getD j false || j == i) ops.length) y = getK (wlog W (fun j => listed.getD j false) ops.length) y := fun y hy =>
               wlog_congr W _ _ y ops.length fun j hj hk => by
                by_cases hji : j = i
                ·subst hji; exact absurd hk hy
                ·simp [hji]
       have hinj : ∀ y1 y2, y1 < M → y2 < M → ρ y1 = ρ y2 → y1 = y2 := fun y1 y2 g1 g2 hr => by
               simp only [ρ] at hr
               by_cases c1 : cr i = some y1 <;> by_cases c2 : cr i = some y2
               ·rw [c1] at c2; cases c2; rfl
               ·rw [if_pos c1, if_neg c2] at hr
                split at hr <;> omega
               ·rw [if_neg c1, if_pos c2] at hr
                split at hr <;> omega
               ·rw [if_neg c1, if_neg c2] at hr
                split at hr <;> split at hr <;> omega
       have hobs2 : ∀ y ob', getK (stW ops T W s M fun j => listed.getD j false || j == i).obs y = some ob' → y < M ∧
                ∃ ob, getK ((stW ops T W s M fun j => listed.getD j false).effS e' o.dst).obs (ρ y) = some ob ∧ Ob.le ρ ob ob' ∧ ob'.under M = true := fun y ob' hy => by
               simp only [stW, getK_applyW] at hy
               cases hn : e'.nw with
               | none =>
                rw [hn] at hcase
                obtain ⟨hd0, hWU, hcn⟩ := hcase
                have hob : ∀ z, getK ((stW ops T W s M fun j => listed.getD j false).effS e' o.dst).obs z = match getK (W i) z with | some x => x | none => getK (stW ops T W s M fun j => listed.getD j false).obs z := fun z => by
                 simp only [St.effS, hn, getK_applyW, hWU]
                 try rfl
                by_cases hk : y ∈ keys (W i)
                ·rw [hWi y hk] at hy
                 obtain ⟨x, hx⟩ := getK_isKey (W i) y hk
                 rw [hx] at hy
                 simp only at hy
                 subst hy
                 have hmem : (y, some ob') ∈ e'.U := by
                  rw [← hWU]
                  have : ∀ (l : Wr), getK l y = some (some ob') → (y, some ob') ∈ l := by
                   intro l
                   induction l with
                   | nil => intro h; cases h
                   | cons p l ih =>
                    obtain ⟨k', d'⟩ := p
                    intro h
                    rw [getK_cons] at h
                    by_cases hyk : y = k'
                    ·rw [if_pos hyk] at h; cases h; subst hyk; simp
                    ·rw [if_neg hyk] at h; exact List.mem_cons_of_mem _ (ih h)
                  exact this _ hx
                 obtain ⟨hga, o0, ho0⟩ := hgU _ hmem ob' rfl
                 obtain ⟨⟨hr, hlt⟩, _⟩ := hobs y o0 ho0
                 refine ⟨hlt, ob', ?_, (Ob.all_le hga).1, (Ob.all_le hga).2⟩
                 rw [hr, hob, hx]
                ·rw [hWn y hk] at hy
                 obtain ⟨⟨hr, hlt⟩, hga⟩ := hobs y ob' (by simp only [stW, getK_applyW]; exact hy)
                 refine ⟨hlt, ob', ?_, (Ob.all_le hga).1, (Ob.all_le hga).2⟩
                 rw [hr, hob, getK_keys (W i) y hk]
                 simp only [stW, getK_applyW]
                 exact hy
               | some nb =>
                rw [hn] at hcase
                obtain ⟨x0, hcx, hWU, hTi⟩ := hcase
                have hx0 := hcr i x0 hcx
                have hob : ∀ z, z ≠ M → getK ((stW ops T W s M fun j => listed.getD j false).effS e' o.dst).obs z = match getK e'.U z with | some x => x | none => getK (stW ops T W s M fun j => listed.getD j false).obs z := fun z hz => by
                 have : ∀ (q : St) (d : D), (q.put o.dst d).obs = q.obs := fun q d => by cases o.dst <;> rfl
                 simp only [St.effS, hn, this, getK_cons]
                 rw [if_neg (by simpa [stW] using hz), getK_applyW]
                 try rfl
                have hobM : getK ((stW ops T W s M fun j => listed.getD j false).effS e' o.dst).obs M = some nb := by
                 have : ∀ (q : St) (d : D), (q.put o.dst d).obs = q.obs := fun q d => by cases o.dst <;> rfl
                 simp only [St.effS, hn, this, getK_cons]
                 rw [if_pos (by simp [stW])]
                by_cases hyx : y = x0
                ·subst hyx
                 have hk : y ∈ keys (W i) := by rw [hWU]; simp [keys]
                 rw [hWi y hk, hWU, getK_cons, if_pos rfl] at hy
                 simp only at hy
                 cases hy
                 have hga := hgN ob' hn
                 refine ⟨hx0.2, ob', ?_, (Ob.all_le hga).1, (Ob.all_le hga).2⟩
                 simp only [ρ]
                 rw [if_pos hcx]
                 exact hobM
                ·by_cases hk : y ∈ keys (W i)
                 ·rw [hWi y hk, hWU, getK_cons, if_neg hyx] at hy
                  have hk' : y ∈ e'.U.map (·.1) := by
                   rw [hWU] at hk
                   simp only [keys, List.map_cons, List.mem_cons] at hk
                   exact hk.resolve_left hyx
                  obtain ⟨x, hx⟩ := getK_isKey e'.U y hk'
                  rw [hx] at hy
                  simp only at hy
                  subst hy
                  have hmem : (y, some ob') ∈ e'.U := by
                   have : ∀ (l : Wr), getK l y = some (some ob') → (y, some ob') ∈ l := by
                    intro l
                    induction l with
                    | nil => intro h; cases h
                    | cons p l ih =>
                     obtain ⟨k', d'⟩ := p
                     intro h
                     rw [getK_cons] at h
                     by_cases hyk : y = k'
                     ·rw [if_pos hyk] at h; cases h; subst hyk; simp
                     ·rw [if_neg hyk] at h; exact List.mem_cons_of_mem _ (ih h)
                   exact this _ hx
                  obtain ⟨hga, o0, ho0⟩ := hgU _ hmem ob' rfl
                  obtain ⟨⟨hr, hlt⟩, _⟩ := hobs y o0 ho0
                  refine ⟨hlt, ob', ?_, (Ob.all_le hga).1, (Ob.all_le hga).2⟩
                  rw [hr, hob y (by omega), hx]
                 ·rw [hWn y hk] at hy
                  obtain ⟨⟨hr, hlt⟩, hga⟩ := hobs y ob' (by simp only [stW, getK_applyW]; exact hy)
                  refine ⟨hlt, ob', ?_, (Ob.all_le hga).1, (Ob.all_le hga).2⟩
                  have hk' : y ∉ e'.U.map (·.1) := by
                   rw [hWU] at hk
                   simp only [keys, List.map_cons, List.mem_cons, not_or] at hk
                   exact hk.2
                  rw [hr, hob y (by omega), getK_keys e'.U y hk']
                  simp only [stW, getK_applyW]
                  exact hy
       have henv2 : ∀ x d', getK (stW ops T W s M fun j => listed.getD j false || j == i).env x = some d' →
                (D.le ρ (((stW ops T W s M fun j => listed.getD j false).effS e' o.dst).at x) d' ∧ d'.under M = true) ∧ x < s.n := fun x d' hx => by
               simp only [stW] at hx
               by_cases hdx : o.dst = some x
               ·rw [henv x hdx] at hx
                cases hx
                have hlt : x < s.n := by rw [hdx] at hpo; exact hpo
                cases hn : e'.nw with
                | none =>
                 rw [hn] at hcase
                 rw [hcase.1] at hdx
                 cases hdx
                | some nb =>
                 rw [hn] at hcase
                 obtain ⟨x0, hcx, hWU, hTi⟩ := hcase
                 have hx0 := hcr i x0 hcx
                 have hρ : ρ x0 = M := by simp only [ρ]; rw [if_pos hcx]
                 refine ⟨⟨.inr (.inl ?_), ?_⟩, hlt⟩
                 ·rw [hTi]
                  simp only [St.effS, hn, hdx, St.put, St.at, getK_cons, if_true, Option.getD_some]
                  cases e'.how <;> simp [mkD, D.ren, hρ, stW]
                 ·rw [hTi]
                  cases e'.how <;> simp [mkD, D.under, hx0.2]
               ·rw [henv' x hdx] at hx
                obtain ⟨g1, g2⟩ := hs.env x d' hx
                have hgd := g2.good hknown
                have hat : ((stW ops T W s M fun j => listed.getD j false).effS e' o.dst).at x = d' := by
                 have : ∀ (q : St) (d : D), getK (q.put o.dst d).env x = getK q.env x := fun q d => by
                  cases hd : o.dst with
                  | none => rfl
                  | some y =>
                   have hne : ¬ x = y := fun e => hdx (by rw [hd, e])
                   simp only [St.put, getK_cons, if_neg hne]
                 simp only [St.at, St.effS]
                 cases hn : e'.nw with
                 | none => simp only [stW, hx]; rfl
                 | some nb => simp only [this, stW, hx]; rfl
                rw [hat]
                exact ⟨⟨.inr (.inl hgd.1.symm), hgd.2⟩, g1⟩
       refine ⟨?_, fun x d' hx => (henv2 x d' hx).1, fun x d' hx => ?_, hobs2, fun y1 y2 o1 o2 g1 g2 hr => hinj y1 y2 (hobs2 y1 o1 g1).1 (hobs2 y2 o2 g2).1 hr, fun j hj => ?_⟩
       ·have : ∀ (q : St) (d : D), (q.put o.dst d).n = q.n := fun q d => by cases o.dst <;> rfl
        simp only [St.effS]
        cases e'.nw <;> simp only [this] <;> rfl
       ·have : ∀ (q : St) (d : D), (q.put o.dst d).n = q.n := fun q d => by cases o.dst <;> rfl
        have e2 : ((stW ops T W s M fun j => listed.getD j false).effS e' o.dst).n = s.n := by
         simp only [St.effS]
         cases e'.nw <;> simp only [this] <;> rfl
        rw [e2]
        exact (henv2 x d' hx).2
       ·have c1 : cr i ≠ some j := fun e => by have := (hcr i j e).1; omega
        have c2 : ¬ un j := fun ⟨q, _, _, hc⟩ => by have := (hcr q j hc).1; omega
        refine ⟨by simp only [ρ]; rw [if_neg c1, if_neg c2], ?_⟩
        show j < M
        omega
      obtain ⟨g1, g2⟩ := Sim.weak h1 h2 hle
      refine go _ a' w' g1 g2 fun j x hj hu hc => ?_
      simp only [Kr.ren]
      split
      ·have c1 : cr i ≠ some x := fun e => by
               have := hcr1 i j x e hc
               subst this
               simp at hu
       have c2 : un x := ⟨j, hj, hu, hc⟩
       simp only [ρ]
       rw [if_neg c1, if_pos c2]
       refine h2.hdr _ ?_
       have : ∀ (q : St) (d : D), (q.put o.dst d).next = q.next := fun q d => by cases o.dst <;> rfl
       simp only [St.effS]
       cases e'.nw <;> simp only [this, stW] <;> omega
      ·rfl
     ·
      let un : Nat → Prop := fun y => ∃ j, j < ops.length ∧ (listed.getD j false || j == i) = false ∧ cr j = some y
      let ρ : Nat → Nat := fun y => open Classical in if un y then M + 1 + y else y
      have hρs : ∀ y, y < s.next → ρ y = y := fun y hy => by
       have : ¬ un y := fun ⟨j, _, _, hc⟩ => by have := (hcr j y hc).1; omega
       simp only [ρ]; rw [if_neg this]
      have hknown : ∀ y h, K.hdr y = some h → ρ y = y ∧ y < M := fun y h hy => by
       have h2 : ¬ un y := fun ⟨j, hj, hu, hc⟩ => by
               simp only [Bool.or_eq_false_iff] at hu
               rw [hfr j y hj hu.1 hc] at hy
               cases hy
       refine ⟨by simp only [ρ]; rw [if_neg h2], ?_⟩
       rcases Nat.lt_or_ge y M with h | h
       ·exact h
       ·rw [hs.hdr y h] at hy; cases hy
      have hobs : ∀ y ob, getK (stW ops T W s M fun j => listed.getD j false).obs y = some ob → (ρ y = y ∧ y < M) ∧ ob.all (Good ρ M) := fun y ob hy => by
       have hok := hs.sat.ob y ob hy
       obtain ⟨h, h1, _⟩ := hok
       exact ⟨hknown y h h1, (hs.sat.ob y ob hy).good hknown⟩
      have hOact : ∀ p ∈ O, getK (stW ops T W s M fun j => listed.getD j false).obs p.1 = some p.2 := fun p hp => by
       rw [← hloc p.1 (by rw [hR]; exact List.mem_map.2 ⟨p, hp, rfl⟩)]
       exact hO p hp
      have hOget : ∀ y ob, getK O y = some ob → getK (stW ops T W s M fun j => listed.getD j false).obs y = some ob := fun y ob h => hOact _ (getK_memK h)
      let F := (stW ops T W s M fun j => listed.getD j false).obs.filter fun p => !(O.map (·.1)).contains p.1
      have hFg : ∀ y, getK F y = if (O.map (·.1)).contains y = true then none else getK (stW ops T W s M fun j => listed.getD j false).obs y := fun y => getK_filterN _ _ y
      have hOn : ∀ y, ¬ (O.map (·.1)).contains y = true → getK O y = none := fun y h => getK_keys O y (by simpa using h)
      have heq : ∀ y, getK (stW ops T W s M fun j => listed.getD j false).obs y = getK (F ++ O) y := fun y => by
       rw [getK_append, hFg]
       by_cases hy : (O.map (·.1)).contains y = true
       ·rw [if_pos hy]
        obtain ⟨x, hx⟩ := getK_isSome (l := O) (y := y) (by simpa using hy)
        rw [hx, hOget y x hx]
       ·rw [if_neg hy, hOn y hy]
        cases getK (stW ops T W s M fun j => listed.getD j false).obs y <;> rfl
      have hF : ∀ y ob, getK F y = some ob → getK O y = none := fun y ob h => by
       rw [hFg] at h
       by_cases hy : (O.map (·.1)).contains y = true
       ·rw [if_pos hy] at h; cases h
       ·exact hOn y hy
      have hopdS : ∀ x, x ∈ fop :: args → opd (stW ops T W s M fun j => listed.getD j false) x = opd (stW ops T W s M fun j => decide (j < i)) x := fun x hx => (hopd x (by
       rcases o with ⟨odst, oop, ot, opos, oaf, og⟩
       unfold callOf at hco
       split at hco
       ·rename_i c hop
        simp only at hop
        subst hop
        split at hco
        ·cases hco
         rename_i f' hcal
         simp only [Op.operands, Call.operands, hcal]
         simp only [List.mem_cons] at hx
         simp
         rcases hx with rfl | hx
         ·exact .inl rfl
         ·exact .inr (by simpa using hx)
        ·cases hco
       ·cases hco)).symm
      have hcall : CallP P Γ fop args o.dst (stW ops T W s M fun j => listed.getD j false) fun s' => ∃ o1, (∀ y, getK o1 y = getK O' y) ∧ s' = (({ (stW ops T W s M fun j => listed.getD j false) with obs := F ++ o1, next := M } : St).put o.dst (T i)) :=
       CallP.xF F O (hret M (Nat.le_refl _)) heq hF (by rw [hopdS fop (by simp)]; exact hcf) hcb (by rw [List.map_congr_left fun x hx => hopdS x (by simp [hx])]) hpo
               (fun d o1 nx' _ ⟨h1, h2, h3⟩ => ⟨o1, h2, by cases h1; rw [h3]⟩) (fun ch o1 nx' _ ⟨h1, _⟩ => by cases h1)
      have heff : EffP P Γ o (stW ops T W s M fun j => listed.getD j false) fun s' => ∃ o1, (∀ y, getK o1 y = getK O' y) ∧ s' = (({ (stW ops T W s M fun j => listed.getD j false) with obs := F ++ o1, next := M } : St).put o.dst (T i)) := by
       have e := hcall
       rcases o with ⟨odst, oop, ot, opos, oaf, og⟩
       unfold callOf at hco
       split at hco
       ·rename_i c hop
        simp only at hop
        subst hop
        split at hco
        ·cases hco
         rename_i f' hcal
         obtain ⟨cal, cargs, cts⟩ := c
         simp only at hcal
         subst hcal
         exact EffP.guard (e cts ot opos oaf)
        ·cases hco
       ·cases hco
      refine .inl (heff K a w hin hs _ _ (fun K' a' w' s' h1 h2 h3 => ?_) fun ch K' a' w' s' h1 h2 h3 => .inl ⟨K', s', h1, h2, h3⟩)
      obtain ⟨o1, ho1, rfl⟩ := h3
      have hWi : ∀ y, y ∈ keys (W i) → getK (wlog W (fun j => listed.getD j false || j == i) ops.length) y = getK (W i) y := fun y hy =>
       wlog_put W _ i y hy ops.length hil fun j hj hlt hk => hlast y hy j hj hlt hk
      have hWn : ∀ y, y ∉ keys (W i) → getK (wlog W (fun j => listed.getD j false || j == i) ops.length) y = getK (wlog W (fun j => listed.getD j false) ops.length) y := fun y hy =>
       wlog_congr W _ _ y ops.length fun j hj hk => by
               by_cases hji : j = i
               ·subst hji; exact absurd hk hy
               ·simp [hji]
      have hWg : ∀ y, getK (W i) y = if L.contains y = true then (getK O' y).map some else none := fun y => by
       rw [hW, getK_some_map, getK_filterK]
       split <;> rfl
      have hkW : ∀ y, y ∈ keys (W i) ↔ L.contains y = true ∧ y ∈ O.map (·.1) := fun y => by
       rw [hW, ← hkeys]
       simp only [keys, List.map_map, List.mem_map, List.mem_filter, Function.comp]
       exact ⟨fun ⟨p, ⟨h1, h2⟩, h3⟩ => ⟨h3 ▸ h2, p, h1, h3⟩, fun ⟨h1, p, h2, h3⟩ => ⟨p, ⟨h2, by rw [h3]; exact h1⟩, h3⟩⟩
      have pobs : ∀ (q : St) (d : D), (q.put o.dst d).obs = q.obs := fun q d => by cases o.dst <;> rfl
      have pn : ∀ (q : St) (d : D), (q.put o.dst d).n = q.n := fun q d => by cases o.dst <;> rfl
      have pnext : ∀ (q : St) (d : D), (q.put o.dst d).next = q.next := fun q d => by cases o.dst <;> rfl
      have hobs2 : ∀ y ob', getK (stW ops T W s M fun j => listed.getD j false || j == i).obs y = some ob' → y < M ∧
               ∃ ob, getK (({ (stW ops T W s M fun j => listed.getD j false) with obs := F ++ o1, next := M } : St).put o.dst (T i)).obs (ρ y) = some ob ∧ Ob.le ρ ob ob' ∧ ob'.under M = true := fun y ob' hy => by
       rw [pobs]
       simp only [stW, getK_applyW] at hy
       by_cases hk : y ∈ keys (W i)
       ·rw [hWi y hk, hWg, if_pos ((hkW y).1 hk).1] at hy
        have hyO : y ∈ O.map (·.1) := ((hkW y).1 hk).2
        obtain ⟨x0, hx0⟩ := getK_isSome (l := O) (y := y) hyO
        obtain ⟨⟨hr, hlt⟩, _⟩ := hobs y x0 (hOget y x0 hx0)
        cases hq : getK O' y with
        | none =>
         obtain ⟨x1, hx1⟩ := getK_isSome (l := O') (y := y) (by rw [hkeys]; exact hyO)
         rw [hx1] at hq
         cases hq
        | some ob =>
         rw [hq] at hy
         have hy : ob = ob' := by simpa using hy
         subst hy
         have hga := ob_good_under (M := M) hρs hM (hOu _ (getK_memK hq))
         refine ⟨hlt, ob, ?_, (Ob.all_le hga).1, (Ob.all_le hga).2⟩
         rw [hr, getK_append, hFg, if_pos (by simpa using hyO), ho1 y, hq]
       ·rw [hWn y hk] at hy
        obtain ⟨⟨hr, hlt⟩, hga⟩ := hobs y ob' (by simp only [stW, getK_applyW]; exact hy)
        refine ⟨hlt, ob', ?_, (Ob.all_le hga).1, (Ob.all_le hga).2⟩
        by_cases hyO : (O.map (·.1)).contains y = true
        ·have hL : L.contains y = false := by
          cases hL : L.contains y with
          | false => rfl
          | true => exact absurd ((hkW y).2 ⟨hL, by simpa using hyO⟩) hk
         obtain ⟨x0, hx0⟩ := getK_isSome (l := O) (y := y) (by simpa using hyO)
         have hx1 := hOget y x0 hx0
         simp only [stW, getK_applyW] at hx1
         rw [hy] at hx1
         rw [hr, getK_append, hFg, if_pos hyO, ho1 y, hsm y hL, hx0]
         exact hx1.symm
        ·rw [hr, getK_append, hFg, if_neg hyO]
         simp only [stW, getK_applyW]
         rw [hy]
      have henv2 : ∀ x d', getK (stW ops T W s M fun j => listed.getD j false || j == i).env x = some d' →
               (D.le ρ ((({ (stW ops T W s M fun j => listed.getD j false) with obs := F ++ o1, next := M } : St).put o.dst (T i)).at x) d' ∧ d'.under M = true) ∧ x < s.n := fun x d' hx => by
       simp only [stW] at hx
       by_cases hdx : o.dst = some x
       ·rw [henv x hdx] at hx
        cases hx
        have hlt : x < s.n := by rw [hdx] at hpo; exact hpo
        have hg := good_under (M := M) hρs hM hdu
        refine ⟨⟨.inr (.inl ?_), hg.2⟩, hlt⟩
        simp only [hdx, St.put, St.at, getK_cons, if_true, Option.getD_some]
        exact hg.1.symm
       ·rw [henv' x hdx] at hx
        obtain ⟨g1, g2⟩ := hs.env x d' hx
        have hgd := g2.good hknown
        have hat : (({ (stW ops T W s M fun j => listed.getD j false) with obs := F ++ o1, next := M } : St).put o.dst (T i)).at x = d' := by
         have : ∀ (q : St) (d : D), getK (q.put o.dst d).env x = getK q.env x := fun q d => by
          cases hd : o.dst with
          | none => rfl
          | some y =>
           have hne : ¬ x = y := fun e => hdx (by rw [hd, e])
           simp only [St.put, getK_cons, if_neg hne]
         simp only [St.at, this, stW, hx]
         try rfl
        rw [hat]
        exact ⟨⟨.inr (.inl hgd.1.symm), hgd.2⟩, g1⟩
      have hinj : ∀ y1 y2, y1 < M → y2 < M → ρ y1 = ρ y2 → y1 = y2 := fun y1 y2 g1 g2 hr => by
       simp only [ρ] at hr
       split at hr <;> split at hr <;> omega
      have hle : St.Le Γ.n0 ρ (({ (stW ops T W s M fun j => listed.getD j false) with obs := F ++ o1, next := M } : St).put o.dst (T i)) (stW ops T W s M fun j => listed.getD j false || j == i) := by
       refine ⟨by rw [pn]; rfl, fun x d' hx => (henv2 x d' hx).1, fun x d' hx => by rw [pn]; exact (henv2 x d' hx).2, hobs2, fun y1 y2 o1 o2 g1 g2 hr => hinj y1 y2 (hobs2 y1 o1 g1).1 (hobs2 y2 o2 g2).1 hr, fun j hj => ⟨hρs j (by omega), ?_⟩⟩
       show j < M
       omega
      obtain ⟨g1, g2⟩ := Sim.weak h1 h2 hle
      refine go _ a' w' g1 g2 fun j x hj hu hc => ?_
      simp only [Kr.ren]
      split
      ·have c2 : un x := ⟨j, hj, hu, hc⟩
       simp only [ρ]
       rw [if_pos c2]
       refine h2.hdr _ ?_
       rw [pnext]
       show M ≤ M + 1 + x
       omega
      ·rfl
    ·rw [if_neg (by rw [hw]; simp)]
     exact next hv.2 K undef w hin (.refl _) rfl hs.sat (by rw [hv.1]; exact .u _ _ (.oth _))
 have h0 : (fun j => (Array.replicate ops.toArray.size false).getD j false) = fun _ => false := funext fun j => by
  by_cases hj : j < ops.length <;> simp [hj]
 refine key _ _ K a w0 (by simp) (by simp) (fun j y hj hS => ?_) hin0 ?_ (fun j x _ _ hc => hs.hdr x (hcr j x hc).1) (fun p _ _ => congrFun h0 p)
 ·have : (Array.replicate ops.toArray.size false).getD j false = false := congrFun h0 j
  rw [this] at hS
  cases hS
 ·rw [h0]
  have none : ∀ (l : List Oper) (i : Nat) (e : List (Nat × D)), envF T (fun _ => false) l i e = e := by
   intro l
   induction l with
   | nil => intro i e; rfl
   | cons o l ih => intro i e; simp [envF, ih]
  have wn : ∀ m, wlog W (fun _ => false) m = [] := by
   intro m
   induction m with
   | zero => rfl
   | succ m ih => simp [wlog, ih]
  refine ⟨hs0.sat.eqo fun y => ?_, hs0.defers, hs0.size, fun x d hx => hs0.env x d ?_, fun y hy => hs0.hdr y (Nat.le_trans hM hy)⟩
  ·simp only [stW, wn]; rfl
  ·simp only [stW, none] at hx; exact hx
abbrev Ent4 := Ent × Nat
abbrev Fp4 := List (List Nat × List Nat × Nat)
def eE (E : Nat → Ent4) (j : Nat) : Ent := (E j).1
def tF4 (E : Nat → Ent4) (n : Nat) : Fp4 := (List.range n).map fun j => (tR (eE E) j, keys (tW (eE E) j), (E j).2)
def Op2X (P : Program) (N : Nat) (s : St) (o : O1) (e : Ent) : Prop :=
 match o.guard with
 | none => Op1X P N s o.op o.dst e.1 e.2.1 e.2.2.1 e.2.2.2
 | some (t, want) => (∃ b, getK s.env t = some (.u (.bool b)) ∧ if b = want then Op1X P N s o.op o.dst e.1 e.2.1 e.2.2.1 e.2.2.2 else e.1 = .un ∧ e.2.1 = [] ∧ e.2.2.1 = none) ∨
  (getK s.env t = some .un ∧ e.1 = .un ∧ e.2.1 = [] ∧ e.2.2.1 = none)
def Op4 (P : Program) (Γ : Ctx) (N : Nat) (s : St) (o : O1) (e : Ent4) : Prop :=
 if e.2 = 2 then e.1.2.1 = [] ∧ e.1.2.2.1 = none else if e.2 = 1 then o.guard = none ∧ StopE P Γ s o.op ∧ e.1.2.1 = [] ∧ e.1.2.2.1 = none else e.2 = 0 ∧ Op2X P N s o e.1
def chain4 (P : Program) (Γ : Ctx) (N : Nat) : List O1 → St → Fp4 → (St → Fp4 → Prop) → Prop
 | [], s, fp, k => k s fp
 | o :: rest, s, fp, k => ∃ e : Ent4, putOK o.dst s ∧ Op4 P Γ N s o e ∧ (∀ x, e.1.2.2.1 = some x → x = s.next) ∧ chain4 P Γ N rest (s.app o.dst e.1) (fp ++ [(e.1.2.2.2, keys e.1.2.1, e.2)]) k
def HD4 (P : Program) (Γ : Ctx) (N : Nat) (l : List O1) (s : St) (fp : Fp4) (C : Fp4 → Prop) (k : St → Prop) : Prop :=
 ∀ s0 : St, s0.Eqo s → chain4 P Γ N l s0 fp fun s1 fp => C fp ∧ ((∀ p ∈ fp, p.2.2 ≠ 1) → ∃ s', s1.Eqo s' ∧ k s')
/-- The head of a list of operations goes through. -/
def HD4h (P : Program) (Γ : Ctx) (N : Nat) (o : O1) (rest : List O1) (s : St) (fp : Fp4) (C : Fp4 → Prop) (k : St → Prop) : Prop :=
 ∀ s0 : St, s0.Eqo s → ∃ e : Ent4, putOK o.dst s0 ∧ Op4 P Γ N s0 o e ∧ e.2 ≠ 1 ∧ (∀ x, e.1.2.2.1 = some x → x = s0.next) ∧ chain4 P Γ N rest (s0.app o.dst e.1) (fp ++ [(e.1.2.2.2, keys e.1.2.1, e.2)]) fun s1 fp => C fp ∧ ((∀ p ∈ fp, p.2.2 ≠ 1) → ∃ s', s1.Eqo s' ∧ k s')
theorem HD4.of_h {P Γ N o rest s fp C k} (h : HD4h P Γ N o rest s fp C k) : HD4 P Γ N (o :: rest) s fp C k := fun s0 e => by
 obtain ⟨en, h1, h2, _, h3, h4⟩ := h s0 e
 exact ⟨en, h1, h2, h3, h4⟩
theorem HD4_nil {P Γ N s fp C k} (hC : C fp) (h : k s) : HD4 P Γ N [] s fp C k := fun s0 e => ⟨hC, fun _ => ⟨s, e, h⟩⟩
theorem HD4_nilS {P Γ N s fp C k} (hC : C fp) (h : (fp.any fun p => p.2.2 == 1) = true) : HD4 P Γ N [] s fp C k := fun s0 e => ⟨hC, fun h1 => by
 obtain ⟨p, hp, hk⟩ := List.any_eq_true.1 h
 exact absurd (by simpa using hk) (h1 p hp)⟩
theorem HD4h_val {P Γ N s dst op rest fp C k} (_ : isEffOp op = false) (h : valD P s op fun d => putOK dst s ∧ HD4 P Γ N rest (s.put dst d) (fp ++ [(rdIds s op, [], 0)]) C k) : HD4h P Γ N ⟨dst, op, none⟩ rest s fp C k := fun s0 e => by
 obtain ⟨d, hv, hp, hr⟩ := Lin.valD.2 _ h
 refine ⟨((d, [], none, rdIds s op), 0), by cases dst <;> simp_all [putOK, e.1], ?_, by simp, fun x hx => (by cases hx), hr _ (e.put dst d)⟩
 unfold Op4
 rw [if_neg (by simp), if_neg (by simp)]
 exact ⟨rfl, .inl (.inl ⟨by rw [valD_eqo e]; exact hv, rfl, rfl, (rdIds_eqo e op).symm⟩)⟩
theorem HD4h_chg {P Γ N s dst op rest fp C k} (_ : isEffOp op = true) (h : effD P s op fun e => putOK dst s ∧ (e.nw = none → dst = none) ∧
  HD4 P Γ N rest (s.effS e dst) (fp ++ [(rdIds s op, match e.nw with | none => (e.U.map (·.1), 0) | some _ => (s.next :: e.U.map (·.1), 0))]) C k) : HD4h P Γ N ⟨dst, op, none⟩ rest s fp C k := fun s0 e0 => by
 obtain ⟨e, hv, hp, hd, hr⟩ := Lin.effD.2 _ h
 have hp0 : putOK dst s0 := by cases dst <;> simp_all [putOK, e0.1]
 have hv0 : effD P s0 op (· = e) := by rw [effD_eqo e0]; exact hv
 cases hn : e.nw with
 | none =>
  obtain rfl := hd hn
  refine ⟨((.any, e.U, none, rdIds s op), 0), hp0, ?_, by simp, fun x hx => (by cases hx), ?_⟩
  ·unfold Op4
   rw [if_neg (by simp), if_neg (by simp)]
   exact ⟨rfl, .inl (.inr ⟨e, hv0, (rdIds_eqo e0 op).symm, by rw [hn]; exact ⟨rfl, rfl, rfl⟩⟩)⟩
  rw [hn] at hr
  refine hr _ ?_
  simp only [St.app, St.effS, hn, St.put]
  exact ⟨e0.1, fun x => by simp only [getK_applyW, e0.2.1 x], e0.2.2.1, e0.2.2.2⟩
 | some ob =>
  refine ⟨((mkD e.how s0.next, (s0.next, some ob) :: e.U, some s0.next, rdIds s op), 0), hp0, ?_, by simp, fun x hx => (by cases hx; rfl), ?_⟩
  ·unfold Op4
   rw [if_neg (by simp), if_neg (by simp)]
   exact ⟨rfl, .inl (.inr ⟨e, hv0, (rdIds_eqo e0 op).symm, by rw [hn]; exact ⟨s0.next, rfl, rfl, rfl⟩⟩)⟩
  rw [hn] at hr
  have h1 := hr (s0.app dst (mkD e.how s0.next, (s0.next, some ob) :: e.U, some s0.next, rdIds s op)) (by
   simp only [St.app, St.effS, hn, e0.2.2.1]
   apply St.Eqo.put
   refine ⟨e0.1, fun x => ?_, by simp, e0.2.2.2⟩
   simp only [applyW, getK_setOb, getK_cons, getK_applyW, e0.2.1 x])
  simp only [keys, List.map_cons]
  rw [e0.2.2.1] at h1 ⊢
  exact h1
theorem HD4_val {P Γ N s dst op rest fp C k} (h0 : isEffOp op = false) (h : valD P s op fun d => putOK dst s ∧ HD4 P Γ N rest (s.put dst d) (fp ++ [(rdIds s op, [], 0)]) C k) : HD4 P Γ N (⟨dst, op, none⟩ :: rest) s fp C k := .of_h (HD4h_val h0 h)
theorem HD4_chg {P Γ N s dst op rest fp C k} (h0 : isEffOp op = true) (h : effD P s op fun e => putOK dst s ∧ (e.nw = none → dst = none) ∧
  HD4 P Γ N rest (s.effS e dst) (fp ++ [(rdIds s op, match e.nw with | none => (e.U.map (·.1), 0) | some _ => (s.next :: e.U.map (·.1), 0))]) C k) : HD4 P Γ N (⟨dst, op, none⟩ :: rest) s fp C k := .of_h (HD4h_chg h0 h)
theorem HD4_guard {P Γ N s dst op rest fp C k t want b} (hb : getK s.env t = some (.u (.bool b))) (hp : putOK dst s)
  (hy : b = want → HD4h P Γ N ⟨dst, op, none⟩ rest (s.put (some t) (.u (.bool want))) fp C k)
  (hn : b = !want → HD4 P Γ N rest ((s.put (some t) (.u (.bool (!want)))).put dst .un) (fp ++ [([], [], 0)]) C k) : HD4 P Γ N (⟨dst, op, some (t, want)⟩ :: rest) s fp C k := fun s0 e => by
 have lit : ∀ b', b = b' → s.Eqo (s.put (some t) (.u (.bool b'))) := fun b' e' => ⟨rfl, fun _ => rfl, rfl, fun x => by
  subst e'
  simp only [St.put, getK_cons]
  split
  ·rename_i hx; rw [hx, hb]
  ·rfl⟩
 have hp0 : putOK dst s0 := by cases dst <;> simp_all [putOK, e.1]
 by_cases hw : b = want
 ·have e1 := e.trans (lit want hw)
  obtain ⟨en, h1, h2, h5, h3, h4⟩ := hy hw s0 e1
  refine ⟨en, h1, ?_, h3, h4⟩
  unfold Op4 at h2 ⊢
  by_cases h6 : en.2 = 2
  ·rw [if_pos h6] at h2 ⊢
   exact h2
  ·rw [if_neg h6, if_neg h5] at h2 ⊢
   exact ⟨h2.1, .inl ⟨b, by rw [e.2.2.2 t]; exact hb, by rw [if_pos hw]; exact h2.2⟩⟩
 ·have hw' : b = !want := by cases b <;> cases want <;> simp_all
  have e1 := e.trans (lit _ hw')
  refine ⟨((.un, [], none, []), 0), hp0, ?_, fun x hx => (by cases hx), hn hw' _ (e1.put dst .un)⟩
  unfold Op4
  rw [if_neg (by simp), if_neg (by simp)]
  exact ⟨rfl, .inl ⟨b, by rw [e.2.2.2 t]; exact hb, by rw [if_neg hw]; exact ⟨rfl, rfl, rfl⟩⟩⟩
/-- An operation that is never reached, for one ahead of it panics. -/
theorem HD4_skip {P Γ N s dst op g rest fp C k} (hp : putOK dst s) (h : HD4 P Γ N rest (s.put dst .any) (fp ++ [([], [], 2)]) C k) : HD4 P Γ N (⟨dst, op, g⟩ :: rest) s fp C k := fun s0 e => by
 refine ⟨((.any, [], none, []), 2), by cases dst <;> simp_all [putOK, e.1], ?_, fun x hx => (by cases hx), h _ (e.put dst .any)⟩
 unfold Op4
 rw [if_pos rfl]
 exact ⟨rfl, rfl⟩
theorem applyW_getK (W : Wr) {o o' : List (Nat × Ob)} (h : ∀ y, getK o y = getK o' y) : ∀ y, getK (applyW W o) y = getK (applyW W o') y := fun y => by rw [getK_applyW, getK_applyW, h y]
/-- A call that changes some of the objects it is handed, and makes none. -/
theorem HD4_callL {P : Program} {Γ : Ctx} {N : Nat} {s : St} {dst : Option Tmp} {rest fp C k} {fop : Operand} {args : Array Operand} {ts : Array TypeId} {f caps} {ds : List D} {d : D} (O O' : List (Nat × Ob)) (L : List Nat)
  (hret : ∀ nx, s.next ≤ nx → RetX P f ds O nx fun r o n => r = .val d ∧ (∀ y, getK o y = getK O' y) ∧ n = nx)
  (hf : calleeOf (opd s fop) = some (f, caps)) (hc : callable P f = true) (hds : args.toList.map (opd s) ++ caps = ds) (hkeys : O'.map (·.1) = O.map (·.1)) (hsm : ∀ y, L.contains y = false → getK O' y = getK O y) (hO : ∀ p ∈ O, getK s.obs p.1 = some p.2) (hnd : (O.map (·.1)).Nodup)
  (hu : d.under N = true ∧ ∀ p ∈ O', p.2.under N = true) (hp : putOK dst s)
  (h : HD4 P Γ N rest (({ s with obs := applyW ((O'.filter fun p => L.contains p.1).map fun p => (p.1, some p.2)) s.obs } : St).put dst d) (fp ++ [(O.map (·.1), (O'.filter fun p => L.contains p.1).map (·.1), 0)]) C k) :
  HD4 P Γ N (⟨dst, .call { callee := .value fop, args, argTypes := ts }, none⟩ :: rest) s fp C k := fun s0 e => by
 refine ⟨((d, (O'.filter fun p => L.contains p.1).map (fun p => (p.1, some p.2)), none, O.map (·.1)), 0), by cases dst <;> simp_all [putOK, e.1], ?_, fun x hx => (by cases hx), ?_⟩
 ·unfold Op4
  rw [if_neg (by simp), if_neg (by simp)]
  refine ⟨rfl, .inr ⟨⟨fop, args.toList, f, caps, O, O', L, rfl, by rw [opd_eqo e]; exact hf, hc, rfl, rfl, hkeys, hsm, fun p hp => by rw [e.2.1]; exact hO p hp, hnd, hu, fun nx hnx => ?_⟩, rfl⟩⟩
  have e1 : args.toList.map (opd s0) = args.toList.map (opd s) := List.map_congr_left fun x _ => opd_eqo e x
  rw [e1, hds]
  exact hret nx (by rw [e.2.2.1] at hnx; exact hnx)
 ·have := h (s0.app dst (d, (O'.filter fun p => L.contains p.1).map (fun p => (p.1, some p.2)), none, O.map (·.1))) (by
   simp only [St.app]
   apply St.Eqo.put
   exact ⟨e.1, applyW_getK _ e.2.1, by simpa using e.2.2.1, e.2.2.2⟩)
  simpa [keys, List.map_map, Function.comp_def] using this
theorem filter_all {O O' : List (Nat × Ob)} (hkeys : O'.map (·.1) = O.map (·.1)) : (O'.filter fun p => (O.map (·.1)).contains p.1) = O' := by
 refine List.filter_eq_self.2 fun p hp => ?_
 rw [← hkeys]
 simp only [List.contains_eq_mem, decide_eq_true_eq]
 exact List.mem_map.2 ⟨p, hp, rfl⟩
/-- A call that changes the objects it is handed, and makes none. -/
theorem HD4_call {P : Program} {Γ : Ctx} {N : Nat} {s : St} {dst : Option Tmp} {rest fp C k} {fop : Operand} {args : Array Operand} {ts : Array TypeId} {f caps} {ds : List D} {d : D} (O O' : List (Nat × Ob))
  (hret : ∀ nx, s.next ≤ nx → RetX P f ds O nx fun r o n => r = .val d ∧ (∀ y, getK o y = getK O' y) ∧ n = nx)
  (hf : calleeOf (opd s fop) = some (f, caps)) (hc : callable P f = true) (hds : args.toList.map (opd s) ++ caps = ds) (hkeys : O'.map (·.1) = O.map (·.1)) (hO : ∀ p ∈ O, getK s.obs p.1 = some p.2) (hnd : (O.map (·.1)).Nodup)
  (hu : d.under N = true ∧ ∀ p ∈ O', p.2.under N = true) (hp : putOK dst s)
  (h : HD4 P Γ N rest (({ s with obs := applyW (O'.map fun p => (p.1, some p.2)) s.obs } : St).put dst d) (fp ++ [(O.map (·.1), O'.map (·.1), 0)]) C k) :
  HD4 P Γ N (⟨dst, .call { callee := .value fop, args, argTypes := ts }, none⟩ :: rest) s fp C k :=
 HD4_callL O O' (O.map (·.1)) hret hf hc hds hkeys (fun y hy => by
  rw [getK_keys O y (by simpa using hy), getK_keys O' y (by rw [hkeys]; simpa using hy)]) hO hnd hu hp (by rw [filter_all hkeys]; exact h)
/-- A call that panics: nothing behind it is reached. -/
theorem HD4_stop {P : Program} {Γ : Ctx} {N : Nat} {s : St} {dst : Option Tmp} {rest fp C k} {fop : Operand} {args : Array Operand} {ts : Array TypeId} {f caps} {ds : List D} {post : Out → List (Nat × Ob) → Nat → Prop} (O : List (Nat × Ob))
  (hret : ∀ nx, s.next ≤ nx → RetX P f ds O nx post) (hno : ∀ d o n, ¬ post (.val d) o n)
  (hf : calleeOf (opd s fop) = some (f, caps)) (hc : callable P f = true) (hds : args.toList.map (opd s) ++ caps = ds) (hO : ∀ p ∈ O, getK s.obs p.1 = some p.2) (hp : putOK dst s)
  (hx : ∀ env ch o n, s.next ≤ n → post (.pan ch) o n → ∃ s2, Wk Γ { n := s.n, env := env, obs := (s.obs.filter fun p => !(O.map (·.1)).contains p.1) ++ o, next := n } s2 ∧ Γ.pan ch s2)
  (h : HD4 P Γ N rest (s.put dst .any) (fp ++ [([], [], 1)]) C k) :
  HD4 P Γ N (⟨dst, .call { callee := .value fop, args, argTypes := ts }, none⟩ :: rest) s fp C k := fun s0 e => by
 refine ⟨((.any, [], none, []), 1), by cases dst <;> simp_all [putOK, e.1], ?_, fun x hx => (by cases hx), h _ (e.put dst .any)⟩
 unfold Op4
 rw [if_neg (by simp), if_pos rfl]
 refine ⟨rfl, fun s' hn ho hopd hnx o hop hg hpo => ?_, rfl, rfl⟩
 obtain ⟨odst, oop, ot, opos, oaf, og⟩ := o
 simp only at hop hg hpo
 subst hop
 subst hg
 have hopS : ∀ x ∈ fop :: args.toList, opd s' x = opd s x := fun x hx => by
  rw [hopd x (by
   simp only [Op.operands, Call.operands]
   simp only [List.mem_cons] at hx
   simp
   rcases hx with rfl | hx
   ·exact .inl rfl
   ·exact .inr (by simpa using hx)), opd_eqo e]
 have hOget : ∀ y, getK s'.obs y = getK s.obs y := fun y => by rw [ho, e.2.1]
 have hcall : CallP P Γ fop args.toList odst s' fun _ => False :=
  CallP.xF (s'.obs.filter fun p => !(O.map (·.1)).contains p.1) O (hret s'.next (by rw [← e.2.2.1]; exact hnx)) (fun y => by
   rw [getK_append, getK_filterN]
   by_cases hy : (O.map (·.1)).contains y = true
   ·rw [if_pos hy]
    obtain ⟨x, hx⟩ := getK_isSome (l := O) (y := y) (by simpa using hy)
    rw [hx, hOget y, hO _ (getK_memK hx)]
   ·rw [if_neg hy, getK_keys O y (by simpa using hy)]
    cases getK s'.obs y <;> rfl) (fun y ob hy => by
   rw [getK_filterN] at hy
   by_cases hc : (O.map (·.1)).contains y = true
   ·rw [if_pos hc] at hy; cases hy
   ·exact getK_keys O y (by simpa using hc)) (by rw [hopS fop (by simp)]; exact hf) hc (by rw [List.map_congr_left fun x hx => hopS x (by simp [hx])]; exact hds) hpo
   (fun d o1 nx' _ hp => absurd hp (hno d o1 nx')) (fun ch o1 nx' hn' hp => by
     obtain ⟨s2, h1, h2⟩ := hx s'.env ch o1 nx' (by have := e.2.2.1; omega) hp
     refine ⟨s2, fun K a w hin hs => h1 K a w hin (hs.eqo ⟨by simp [hn, e.1], fun y => ?_, rfl, fun _ => rfl⟩), h2⟩
     simp only [getK_append, getK_filterN, hOget])
 exact hcall ts ot opos oaf
theorem chain4_T {P : Program} {Γ : Ctx} {N : Nat} {all : Array Oper} {s0 : St} {ops : List Oper} {k : St → Fp4 → Prop} : ∀ (l : List O1) (tail : List Oper) (i : Nat) (E : Nat → Ent4), stripL all tail = some l → (∀ j, tail[j]? = ops[i + j]?) →
  chain4 P Γ N l (stE ops s0 (eE E) i) (tF4 E i) k → ∃ E' : Nat → Ent4, (∀ j, j < i → E' j = E j) ∧
   (∀ j o, i ≤ j → ops[j]? = some o → putOK o.dst s0 ∧ (if (E' j).2 = 2 then tW (eE E') j = [] ∧ tC (eE E') j = none else if (E' j).2 = 1 then o.guard = none ∧ StopE P Γ (stE ops s0 (eE E') j) o.op ∧ tW (eE E') j = [] ∧ tC (eE E') j = none else
     (E' j).2 = 0 ∧ OpGX P N all (stE ops s0 (eE E') j) o (tT (eE E') j) (tW (eE E') j) (tC (eE E') j) (tR (eE E') j)) ∧ ∀ x, tC (eE E') j = some x → x = s0.next + cnt (eE E') j) ∧
   k (stE ops s0 (eE E') (i + tail.length)) (tF4 E' (i + tail.length))
 | [], tail, i, E, hs, ht, h => by
  cases tail with
  | nil => exact ⟨E, fun _ _ => rfl, fun j o hj ho => by have := ht (j - i); rw [show i + (j - i) = j by omega, ho] at this; simp at this, by simpa [chain4] using h⟩
  | cons x l => simp only [stripL] at hs; split at hs <;> simp at hs
 | o1 :: l, tail, i, E, hs, ht, h => by
  obtain ⟨x, tl, rfl, hx, hr⟩ := stripL_cons hs
  obtain ⟨e, hp, hv, hnx, hc⟩ := h
  have hxi : ops[i]? = some x := by have := ht 0; simpa using this.symm
  have hdst : o1.dst = x.dst ∧ o1.op = x.op := by
   unfold strip at hx
   split at hx
   ·simp at hx; subst hx; exact ⟨rfl, rfl⟩
   ·split at hx
    ·simp at hx; subst hx; exact ⟨rfl, rfl⟩
    ·cases hx
  let E1 : Nat → Ent4 := fun j => if j = i then e else E j
  have h1 : ∀ j, j < i → E j = E1 j := fun j hj => by simp only [E1]; rw [if_neg (by omega)]
  have h1' : ∀ j, j < i → eE E j = eE E1 j := fun j hj => by simp only [eE, h1 j hj]
  have hi : E1 i = e := by simp [E1]
  have hi' : eE E1 i = e.1 := by simp only [eE, hi]
  have hstep : (stE ops s0 (eE E) i).app o1.dst e.1 = stE ops s0 (eE E1) (i + 1) := by
   rw [stE_congr h1', hdst.1]
   simp only [stE, St.app]
   rw [envF_step (tT (eE E1)) i ops 0 s0.env x (Nat.zero_le _) (by simpa using hxi)]
   have hw : wlog (tW (eE E1)) (fun _ => true) (i + 1) = e.1.2.1 ++ wlog (tW (eE E1)) (fun _ => true) i := by
    rw [wlog, if_pos rfl, show tW (eE E1) i = e.1.2.1 by simp only [tW, hi']]
   have hcn : cnt (eE E1) (i + 1) = cnt (eE E1) i + if e.1.2.2.1.isSome then 1 else 0 := by
    rw [cnt, show tC (eE E1) i = e.1.2.2.1 by simp only [tC, hi']]
   rw [hw, applyW_append, hcn]
   have hT : tT (eE E1) i = e.1.1 := by simp only [tT, hi']
   cases x.dst with
   | none => simp only [St.put, Nat.add_assoc]
   | some y => simp only [St.put, hT, Nat.add_assoc]
  have hfp : tF4 E i ++ [(e.1.2.2.2, keys e.1.2.1, e.2)] = tF4 E1 (i + 1) := by
   have hc1 : tF4 E i = tF4 E1 i := List.map_congr_left fun j hj => by
    have := h1 j (List.mem_range.1 hj)
    simp only [eE, tR, tW, this]
   rw [hc1]
   simp only [tF4, List.range_succ, List.map_append, List.map_cons, List.map_nil]
   rw [show tR (eE E1) i = e.1.2.2.2 by simp only [tR, hi'], show tW (eE E1) i = e.1.2.1 by simp only [tW, hi'], hi]
  rw [hstep, hfp] at hc
  obtain ⟨E', g1, g2, g3⟩ := chain4_T l tl (i + 1) E1 hr (fun j => by have := ht (j + 1); rw [show i + 1 + j = i + (j + 1) by omega, ← this]; simp) hc
  refine ⟨E', fun j hj => by rw [g1 j (by omega), h1 j hj], fun j o hj ho => ?_, ?_⟩
  ·rcases Nat.lt_or_ge i j with h' | h'
   ·exact g2 j o h' ho
   ·obtain rfl : i = j := by omega
    rw [hxi] at ho
    cases ho
    have hEi : E' i = e := by rw [g1 i (by omega), hi]
    have hEi' : eE E' i = e.1 := by simp only [eE, hEi]
    have hst : stE ops s0 (eE E') i = stE ops s0 (eE E) i := stE_congr fun j hj => by simp only [eE]; rw [g1 j (by omega), ← h1 j hj]
    refine ⟨by rw [hdst.1] at hp; exact hp, ?_, fun y hy => ?_⟩
    ·rw [hst]
     simp only [tT, tW, tC, tR, hEi, hEi']
     unfold Op4 at hv
     by_cases c2 : e.2 = 2
     ·rw [if_pos c2] at hv ⊢
      exact hv
     ·rw [if_neg c2] at hv ⊢
      by_cases c1 : e.2 = 1
      ·rw [if_pos c1] at hv ⊢
       obtain ⟨v1, v2, v3⟩ := hv
       refine ⟨?_, by rw [← hdst.2]; exact v2, v3⟩
       unfold strip at hx
       split at hx
       ·rename_i hg; exact hg
       ·split at hx
        ·simp at hx; subst hx; cases v1
        ·cases hx
      ·rw [if_neg c1] at hv ⊢
       obtain ⟨v0, hv⟩ := hv
       refine ⟨v0, ?_⟩
       unfold strip at hx
       unfold OpGX
       unfold Op2X at hv
       split at hx
       ·rename_i hg
        simp at hx
        subst hx
        try rw [hg]
        exact hv
       ·rename_i q want hg
        split at hx
        ·rename_i t ht'
         simp at hx
         subst hx
         try rw [hg]
         exact ⟨t, ht', hv⟩
        ·cases hx
    ·have : tC (eE E') i = e.1.2.2.1 := by simp only [tC, hEi']
     rw [this] at hy
     have := hnx y hy
     rw [this, cnt_congr (eE E') (eE E) i fun j hj => by simp only [eE]; rw [g1 j (by omega), ← h1 j hj]]
     try rfl
  ·rw [show i + (x :: tl).length = i + 1 + tl.length by simp; omega]
   exact g3
def okP4 (ops : List Oper) (fp : Fp4) : Bool :=
 okP ops (fp.map fun p => (p.1, p.2.1)) &&
 (List.range ops.length).all fun j => ((fp.getD j ([], [], 0)).2.2 != 2 || (List.range ops.length).any fun p => (fp.getD p ([], [], 0)).2.2 == 1 && befB ops ops.length p j) &&
   ((fp.getD j ([], [], 0)).2.2 != 1 || (List.range ops.length).all fun i => (fp.getD i ([], [], 0)).2.1.isEmpty || befB ops ops.length i j || befB ops ops.length j i)
theorem V_drawX {P Γ s} {Q : Exit → St → Prop} {kt : Kt} {id : Nat} {l : List Oper} (hm : P.follows .mixedOrders = true) (hord : ordOK l = true) (hn0 : Γ.n0 ≤ s.next)
  (h : ∀ (C : Fp4 → Prop) (k : St → Prop), (∀ fp, okP4 l fp = true → C fp) → (∀ s', RunK P Γ Q kt .normal s' → k s') → match stripL l.toArray l with | some l' => HD4 P Γ s.next l' s [] C k | none => False) :
  V P Γ (.region id l.toArray true) s (RunK P Γ Q kt) := by
 have := h (fun fp => okP4 l fp = true) _ (fun _ h => h) fun _ h => h
 split at this
 ·rename_i l' hl
  have h0 : stE l s (eE fun _ => default) 0 = s := by
   have hnone : ∀ (l : List Oper) (i : Nat) (e : List (Nat × D)), envF (tT (eE fun _ => default)) (fun j => decide (j < 0)) l i e = e := by
    intro l
    induction l with
    | nil => intro i e; rfl
    | cons o l ih => intro i e; exact ih (i + 1) e
   simp only [stE, hnone]
   try rfl
  have hc := this s (.refl s)
  rw [← h0] at hc
  obtain ⟨E, _, h2, hok, hfin⟩ := chain4_T l' l 0 (fun _ => default) hl (fun j => by rw [Nat.zero_add]) hc
  rw [Nat.zero_add] at hok hfin
  simp only [okP4, Bool.and_eq_true] at hok
  obtain ⟨hok1, hok2⟩ := hok
  have hlen4 : ∀ i, i < l.length → (tF4 E l.length).getD i ([], [], 0) = (tR (eE E) i, keys (tW (eE E) i), (E i).2) := fun i hi => by
   simp [tF4, hi]
  have hlen : ∀ i, i < l.length → ((tF4 E l.length).map fun p => (p.1, p.2.1)).getD i ([], []) = (tR (eE E) i, keys (tW (eE E) i)) := fun i hi => by
   simp [tF4, hi]
  have mono : ∀ i j, i ≤ j → cnt (eE E) i ≤ cnt (eE E) j := fun i j hij => by
   induction hij with
   | refl => exact Nat.le_refl _
   | step _ ih => simp only [cnt]; omega
  have hcr : ∀ i x, i < l.length → tC (eE E) i = some x → x = s.next + cnt (eE E) i ∧ cnt (eE E) (i + 1) = cnt (eE E) i + 1 := fun i x hi hx => by
   have := (h2 i _ (Nat.zero_le _) (List.getElem?_eq_getElem hi)).2.2 x hx
   exact ⟨this, by simp only [cnt, hx]; rfl⟩
  let cr : Nat → Option Nat := fun i => if i < l.length then tC (eE E) i else none
  let kd : Nat → Nat := fun i => if i < l.length then (E i).2 else 0
  let W : Nat → Wr := fun i => if i < l.length then tW (eE E) i else []
  have hWe : ∀ i, i < l.length → W i = tW (eE E) i := fun i hi => by simp only [W]; rw [if_pos hi]
  refine V_draw4 (T := tT (eE E)) (W := W) (cr := cr) (R := tR (eE E)) (kd := kd) (M := s.next + cnt (eE E) l.length) hm hord hn0 (by omega) (fun i x hx => ?_) (fun i j x hi hj => ?_) (fun i j hij hj hb => ?_) (fun i hk => ?_) (fun p i hp hi hw => ?_) (fun i o ho => ?_) (fun hnk => ?_)
  ·simp only [cr] at hx
   split at hx
   ·rename_i hi
    obtain ⟨e1, e2⟩ := hcr i x hi hx
    have := mono (i + 1) l.length hi
    omega
   ·cases hx
  ·simp only [cr] at hi hj
   split at hi
   ·rename_i hil
    split at hj
    ·rename_i hjl
     obtain ⟨e1, e2⟩ := hcr i x hil hi
     obtain ⟨e3, e4⟩ := hcr j x hjl hj
     rcases Nat.lt_trichotomy i j with hlt | hlt | hlt
     ·have := mono (i + 1) j hlt
      omega
     ·exact hlt
     ·have := mono (j + 1) i hlt
      omega
    ·cases hj
   ·cases hi
  ·have := (List.all_eq_true.1 ((List.all_eq_true.1 hok1) j (List.mem_range.2 hj))) i (List.mem_range.2 hij)
   rw [hb, hlen i (by omega), hlen j hj] at this
   simp only [Bool.false_or, Bool.and_eq_true] at this
   rw [hWe i (by omega), hWe j hj]
   refine ⟨fun y hy => ?_, fun y hy => disjB_out this.2 y hy⟩
   have := disjB_out this.1 y hy
   rw [List.mem_append, not_or] at this
   exact this
  ·simp only [kd] at hk
   split at hk
   ·rename_i hi
    obtain ⟨_, g2, _⟩ := h2 i _ (Nat.zero_le _) (List.getElem?_eq_getElem hi)
    have hci : cr i = tC (eE E) i := by simp only [cr]; rw [if_pos hi]
    rw [hWe i hi, hci]
    by_cases c2 : (E i).2 = 2
    ·rw [if_pos c2] at g2; exact g2
    ·rw [if_neg c2] at g2
     by_cases c1 : (E i).2 = 1
     ·rw [if_pos c1] at g2; exact g2.2.2
     ·rw [if_neg c1] at g2; exact absurd g2.1 hk
   ·exact absurd rfl hk
  ·simp only [kd] at hp
   split at hp
   ·rename_i hpl
    have := (List.all_eq_true.1 hok2) p (List.mem_range.2 hpl)
    rw [Bool.and_eq_true, hlen4 p hpl] at this
    have h3 := this.2
    simp only [hp] at h3
    have h4 : ((List.range l.length).all fun i => ((tF4 E l.length).getD i ([], [], 0)).2.1.isEmpty || befB l l.length i p || befB l l.length p i) = true := by simpa using h3
    have h5 := (List.all_eq_true.1 h4) i (List.mem_range.2 hi)
    rw [hlen4 i hi] at h5
    simp only [Bool.or_eq_true] at h5
    rcases h5 with (h5 | h5) | h5
    ·exfalso
     apply hw
     rw [hWe i hi]
     have : keys (tW (eE E) i) = [] := by simpa using h5
     simpa [keys] using this
    ·exact .inl h5
    ·exact .inr h5
   ·cases hp
  ·have hi := (List.getElem?_eq_some_iff.1 ho).1
   obtain ⟨g1, g2, g3⟩ := h2 i o (Nat.zero_le _) ho
   refine ⟨g1, ?_⟩
   have hwl : ∀ S m, m ≤ l.length → wlog W S m = wlog (tW (eE E)) S m := fun S m hm => wlog_congrW W (tW (eE E)) S m fun j hj => hWe j (by omega)
   have hst : stW l (tT (eE E)) W s (s.next + cnt (eE E) l.length) (fun j => decide (j < i)) = { stE l s (eE E) i with next := s.next + cnt (eE E) l.length } := by
    simp only [stW, stE]
    rw [hwl _ _ (Nat.le_refl _), wlog_take (tW (eE E)) i l.length (by omega)]
   have hcri : cr i = tC (eE E) i := by simp only [cr]; rw [if_pos hi]
   have hkdi : kd i = (E i).2 := by simp only [kd]; rw [if_pos hi]
   rw [hst, hcri, hkdi, hWe i hi]
   have opo : ∀ x, opd { stE l s (eE E) i with next := s.next + cnt (eE E) l.length } x = opd (stE l s (eE E) i) x := fun x => by cases x <;> rfl
   have eqo : ∀ (op : Op) (r : D → Prop), valD P { stE l s (eE E) i with next := s.next + cnt (eE E) l.length } op r = valD P (stE l s (eE E) i) op r := fun op r => valD_congr rfl fun x _ => by cases x <;> rfl
   have ero : ∀ (op : Op), rdIds { stE l s (eE E) i with next := s.next + cnt (eE E) l.length } op = rdIds (stE l s (eE E) i) op := fun op => by
    have e : opd { stE l s (eE E) i with next := s.next + cnt (eE E) l.length } = opd (stE l s (eE E) i) := funext fun x => by cases x <;> rfl
    unfold rdIds lentIds argsV
    rw [e]
   have efo : ∀ (op : Op) (r : ERes → Prop), effD P { stE l s (eE E) i with next := s.next + cnt (eE E) l.length } op r = effD P (stE l s (eE E) i) op r := fun op r =>
    propext ⟨effD_loc (fun _ _ => rfl) fun x _ => by cases x <;> rfl, effD_loc (fun _ _ => rfl) fun x _ => by cases x <;> rfl⟩
   have hle : (stE l s (eE E) i).next ≤ s.next + cnt (eE E) l.length := by
    have := mono i l.length (by omega)
    simp only [stE]; omega
   have cao : ∀ (op : Op) (d : D) (W : Wr) (R : List Nat), CallE P s.next (stE l s (eE E) i) op d W R → CallE P s.next { stE l s (eE E) i with next := s.next + cnt (eE E) l.length } op d W R :=
    fun op d W R ⟨fop, args, f, caps, O, O', L, q1, q2, q3, q4, q5, q6, q6b, q7, q8, q9, q10⟩ => ⟨fop, args, f, caps, O, O', L, q1, by rw [opo]; exact q2, q3, q4, q5, q6, q6b, q7, q8, q9, fun nx hnx => by
     rw [List.map_congr_left fun x _ => opo x]
     exact q10 nx (Nat.le_trans hle hnx)⟩
   have c1x : ∀ (op : Op) (dst : Option Tmp) (d : D) (W : Wr) (cr : Option Nat) (R : List Nat), Op1X P s.next (stE l s (eE E) i) op dst d W cr R → Op1X P s.next { stE l s (eE E) i with next := s.next + cnt (eE E) l.length } op dst d W cr R :=
    fun op dst d W cr R h => by
     rcases h with h | ⟨h, hc⟩
     ·left
      unfold Op1 at h ⊢
      simp only [eqo, ero, efo]
      exact h
     ·exact .inr ⟨cao _ _ _ _ h, hc⟩
   by_cases k2 : (E i).2 = 2
   ·rw [if_pos k2]
    have := (List.all_eq_true.1 hok2) i (List.mem_range.2 hi)
    rw [Bool.and_eq_true, hlen4 i hi] at this
    have h3 := this.1
    simp only [k2] at h3
    have h4 : ((List.range l.length).any fun p => ((tF4 E l.length).getD p ([], [], 0)).2.2 == 1 && befB l l.length p i) = true := by simpa using h3
    obtain ⟨p, hp, h5⟩ := List.any_eq_true.1 h4
    have hpl := List.mem_range.1 hp
    rw [hlen4 p hpl, Bool.and_eq_true] at h5
    exact ⟨p, by simp only [kd]; rw [if_pos hpl]; simpa using h5.1, hpl, h5.2⟩
   ·rw [if_neg k2] at g2 ⊢
    by_cases k1 : (E i).2 = 1
    ·rw [if_pos k1] at g2 ⊢
     refine ⟨g2.1, fun s' a1 a2 a3 a4 => g2.2.1 s' a1 a2 (fun x hx => by rw [a3 x hx, opo]) (Nat.le_trans hle a4)⟩
    ·rw [if_neg k1] at g2 ⊢
     obtain ⟨_, g2⟩ := g2
     unfold OpGX at g2 ⊢
     split
     ·rename_i hg; rw [hg] at g2; exact c1x _ _ _ _ _ _ g2
     ·rename_i j want hg
      rw [hg] at g2
      obtain ⟨t, ht, g2⟩ := g2
      refine ⟨t, ht, ?_⟩
      rcases g2 with ⟨b, hb, g2⟩ | g2
      ·refine .inl ⟨b, hb, ?_⟩
       split
       ·rename_i hbw; rw [if_pos hbw] at g2; exact c1x _ _ _ _ _ _ g2
       ·rename_i hbw; rw [if_neg hbw] at g2; exact g2
      ·exact .inr g2
  ·obtain ⟨s', h3, h4⟩ := hfin fun p hp => by
    obtain ⟨i, hi, rfl⟩ := List.mem_map.1 hp
    have hil := List.mem_range.1 hi
    have := hnk i hil
    simp only [kd] at this
    rw [if_pos hil] at this
    exact this
   refine ⟨s', St.Eqo.trans (b := stE l s (eE E) l.length) ⟨rfl, fun x => ?_, rfl, fun x => ?_⟩ h3, h4⟩
   ·simp only [stW, stE]
    rw [wlog_congrW W (tW (eE E)) (fun _ => true) l.length fun j hj => hWe j hj]
   ·simp only [stW, stE]
    exact envF_congr (tT (eE E)) _ _ x l 0 s.env s.env rfl fun j o hj _ => by
     have := (List.getElem?_eq_some_iff.1 hj).1
     simp [this]
 ·exact this.elim
end Go.VL
namespace Go.VL
open Go
/-- Numbers of objects by their places: the first ones are those that were handed over. -/
def rhoI (ids : List Nat) (nx k : Nat) : Nat := match ids[k]? with | some x => x | none => nx + (k - ids.length)
theorem rhoI_inj {ids : List Nat} {nx : Nat} (hd : ids.Nodup) (hlt : ∀ x ∈ ids, x < nx) {a b : Nat} (h : rhoI ids nx a = rhoI ids nx b) : a = b := by
 unfold rhoI at h
 rcases ha : ids[a]? with _ | x <;> rcases hb : ids[b]? with _ | y <;> rw [ha, hb] at h <;> simp only at h
 ·have := List.getElem?_eq_none_iff.1 ha
  have := List.getElem?_eq_none_iff.1 hb
  omega
 ·have := hlt y (List.mem_of_getElem? hb)
  omega
 ·have := hlt x (List.mem_of_getElem? ha)
  omega
 ·obtain ⟨h1, h2⟩ := List.getElem?_eq_some_iff.1 ha
  obtain ⟨h3, h4⟩ := List.getElem?_eq_some_iff.1 hb
  rw [List.nodup_iff_pairwise_ne, List.pairwise_iff_getElem] at hd
  rcases Nat.lt_trichotomy a b with hlt' | hlt' | hlt'
  ·exact absurd (h2.trans (h.trans h4.symm)) (hd a b h1 h3 hlt')
  ·exact hlt'
  ·exact absurd (h2.trans (h.trans h4.symm)).symm (hd b a h3 h1 hlt')
inductive KL (ids : List Nat) (nx : Nat) : List Nat → List Nat → Prop
 | nil : KL ids nx [] []
 | cons (k : Nat) {x l l0} (h : rhoI ids nx k = x) (t : KL ids nx l l0) : KL ids nx (x :: l) (k :: l0)
theorem KL.map {ids nx l l0} (h : KL ids nx l l0) : l = l0.map (rhoI ids nx) := by
 induction h with
 | nil => rfl
 | cons k h t ih => rw [List.map_cons, h, ← ih]
inductive KF (ids : List Nat) (nx : Nat) : Fp4 → Fp4 → Prop
 | nil : KF ids nx [] []
 | cons {a a0 b b0 k fp fp0} (h1 : KL ids nx a a0) (h2 : KL ids nx b b0) (h3 : KF ids nx fp fp0) : KF ids nx ((a, b, k) :: fp) ((a0, b0, k) :: fp0)
theorem KF.map {ids nx l l0} (h : KF ids nx l l0) : l = l0.map fun p => (p.1.map (rhoI ids nx), p.2.1.map (rhoI ids nx), p.2.2) := by
 induction h with
 | nil => rfl
 | cons h1 h2 _ ih => rw [List.map_cons, ← h1.map, ← h2.map, ← ih]
theorem disjB_map {ρ : Nat → Nat} (hρ : ∀ a b, ρ a = ρ b → a = b) (a b : List Nat) : disjB (a.map ρ) (b.map ρ) = disjB a b := by
 unfold disjB
 rw [List.all_map]
 congr 1
 funext y
 simp only [Function.comp]
 congr 1
 rw [Bool.eq_iff_iff]
 simp only [List.contains_eq_mem, decide_eq_true_eq, List.mem_map]
 exact ⟨fun ⟨z, h1, h2⟩ => hρ _ _ h2 ▸ h1, fun h => ⟨y, h, rfl⟩⟩
theorem okP4_ren {ops : List Oper} {fp : Fp4} (ids : List Nat) (nx : Nat) (hd : ids.Nodup) (hlt : ∀ x ∈ ids, x < nx) (h : ∃ fp0, KF ids nx fp fp0 ∧ okP4 ops fp0 = true) : okP4 ops fp = true := by
 obtain ⟨fp0, hk, h⟩ := h
 have hr := hk.map
 subst hr
 have hρ : ∀ a b, rhoI ids nx a = rhoI ids nx b → a = b := fun a b => rhoI_inj hd hlt
 have g4 : ∀ i, (fp0.map fun p => (p.1.map (rhoI ids nx), p.2.1.map (rhoI ids nx), p.2.2)).getD i ([], [], 0) = (((fp0.getD i ([], [], 0)).1.map (rhoI ids nx), (fp0.getD i ([], [], 0)).2.1.map (rhoI ids nx), (fp0.getD i ([], [], 0)).2.2)) := fun i => by
  simp only [List.getD_eq_getElem?_getD, List.getElem?_map]
  cases fp0[i]? <;> rfl
 have g2 : ∀ i, ((fp0.map fun p => (p.1.map (rhoI ids nx), p.2.1.map (rhoI ids nx), p.2.2)).map fun p => (p.1, p.2.1)).getD i ([], []) =
   ((((fp0.map fun p => (p.1, p.2.1)).getD i ([], [])).1.map (rhoI ids nx), ((fp0.map fun p => (p.1, p.2.1)).getD i ([], [])).2.map (rhoI ids nx))) := fun i => by
  simp only [List.getD_eq_getElem?_getD, List.getElem?_map]
  cases fp0[i]? <;> rfl
 unfold okP4 okP at h ⊢
 simp only [g4, g2, ← List.map_append, disjB_map hρ, List.isEmpty_map] at h ⊢
 exact h
/-- A call that changes the one object it is handed. -/
theorem HD4_ok1 {P : Program} {Γ : Ctx} {N : Nat} {s : St} {dst : Option Tmp} {rest fp C k} {fop : Operand} {args : Array Operand} {ts : Array TypeId} {f caps} {ds : List D} {d : D} {j : Nat} {ob ob' : Ob}
  (hret : ∀ nx, s.next ≤ nx → RetX P f ds [(j, ob)] nx fun r o n => r = .val d ∧ o = [(j, ob')] ∧ n = nx)
  (hj : getK s.obs j = some ob) (hf : calleeOf (opd s fop) = some (f, caps)) (hc : callable P f = true) (hds : args.toList.map (opd s) ++ caps = ds)
  (hu : d.under N = true ∧ ob'.under N = true) (hp : putOK dst s)
  (h : HD4 P Γ N rest (({ s with obs := applyW [(j, some ob')] s.obs } : St).put dst d) (fp ++ [([j], [j], 0)]) C k) :
  HD4 P Γ N (⟨dst, .call { callee := .value fop, args, argTypes := ts }, none⟩ :: rest) s fp C k :=
 HD4_call [(j, ob)] [(j, ob')] (fun nx hnx => (hret nx hnx).mono fun r o n ⟨h1, h2, h3⟩ => ⟨h1, fun y => by rw [h2], h3⟩) hf hc hds rfl (by simpa using hj) (by simp) ⟨hu.1, by simpa using hu.2⟩ hp h
/-- The same, and it panics. -/
theorem HD4_pan1 {P : Program} {Γ : Ctx} {N : Nat} {s : St} {dst : Option Tmp} {rest fp C k} {fop : Operand} {args : Array Operand} {ts : Array TypeId} {f caps} {ds : List D} {j : Nat} {ob : Ob} {ch : List PanicEntry} {p : Ob → Prop}
  (hret : ∀ nx, s.next ≤ nx → RetX P f ds [(j, ob)] nx fun r o n => r = .pan ch ∧ (∃ ob', p ob' ∧ o = [(j, ob')]) ∧ n = nx)
  (hj : getK s.obs j = some ob) (hf : calleeOf (opd s fop) = some (f, caps)) (hc : callable P f = true) (hds : args.toList.map (opd s) ++ caps = ds) (hp : putOK dst s)
  (hx : ∀ env ob' n, s.next ≤ n → p ob' → ∃ s2, Wk Γ { n := s.n, env := env, obs := del s.obs j ++ [(j, ob')], next := n } s2 ∧ Γ.pan ch s2)
  (h : HD4 P Γ N rest (s.put dst .any) (fp ++ [([], [], 1)]) C k) :
  HD4 P Γ N (⟨dst, .call { callee := .value fop, args, argTypes := ts }, none⟩ :: rest) s fp C k := by
 have hfil : (s.obs.filter fun p => !(([(j, ob)] : List (Nat × Ob)).map (·.1)).contains p.1) = del s.obs j := by
  unfold del
  congr 1
  funext p
  simp only [List.map_cons, List.map_nil, List.contains_cons, List.contains_nil, Bool.or_false]
 refine HD4_stop (post := fun r o _ => r = .pan ch ∧ ∃ ob', p ob' ∧ o = [(j, ob')]) [(j, ob)] (fun nx hnx => (hret nx hnx).mono fun r o n ⟨h1, h2, _⟩ => ⟨h1, h2⟩) (fun d o n h => by cases h.1) hf hc hds (by simpa using hj) hp (fun env ch' o n hn h => ?_) h
 obtain ⟨h1, ob', h2, rfl⟩ := h
 cases h1
 rw [hfil]
 exact hx env ob' n hn h2
/-- Behind a call that panics. -/
theorem HD4_skipS {P Γ N s dst op g rest fp C k} (_ : (fp.any fun p => p.2.2 == 1) = true) (hp : putOK dst s) (h : HD4 P Γ N rest (s.put dst .any) (fp ++ [([], [], 2)]) C k) : HD4 P Γ N (⟨dst, op, g⟩ :: rest) s fp C k := HD4_skip hp h
/-- The end of a call: without its slots and its own objects. -/
theorem FinOK.cut {n0 : Nat} {post : D → List (Nat × Ob) → Nat → Prop} {s : St} {d : D} (obs : List (Nat × Ob)) (N : Nat) (ho : ∀ p ∈ obs, getK s.obs p.1 = some p.2 ∧ p.1 < N ∧ p.2.under N = true) (hd : d.under N = true) (hn : n0 ≤ N)
  (h : post d obs N) : FinOK n0 post s d :=
 .inl ⟨{ s with env := [], obs := obs, next := N }, fun i => i, d, ⟨rfl, fun x d' hx => by simp [getK] at hx, fun x d' hx => by simp [getK] at hx,
  fun i ob hi => ⟨(ho _ (getK_in hi)).2.1, ob, (ho _ (getK_in hi)).1, Ob.le_id ob, (ho _ (getK_in hi)).2.2⟩, fun _ _ _ _ _ _ h => h, fun i hi => ⟨rfl, Nat.lt_of_lt_of_le hi hn⟩⟩, D.le_id d, hd, hn, h⟩
def isVec : D → Bool
 | .vec .. => true
 | _ => false
/-- A slice that is handed over and not needed any more is frozen ahead of the call. -/
theorem CallP_frzV {P : Program} {Γ : Ctx} {s : St} {k : St → Prop} {dst : Option Tmp} {fop : Operand} {args : List Operand} (_ : (args.map (opd s)).any isVec = true) (h : CallP P Γ fop args dst (frzN 1 s) k) : CallP P Γ fop args dst s k :=
 CallP_wk (Wk.frzN 1 _) h
end Go.VL
namespace Go.VL
open Go
def delL {α : Type} (obs : List (Nat × α)) : List Nat → List (Nat × α)
 | [] => obs
 | i :: l => delL (del obs i) l
theorem delL_filter {α : Type} : ∀ (l : List Nat) (obs : List (Nat × α)), delL obs l = obs.filter fun p => !l.contains p.1
 | [], obs => by rw [delL]; exact (List.filter_eq_self.2 (by simp)).symm
 | i :: l, obs => by
  rw [delL, delL_filter l, del, List.filter_filter]
  congr 1
  funext p
  simp only [List.contains_cons]
  cases p.1 == i <;> cases l.contains p.1 <;> rfl
theorem delL_heq {obs O : List (Nat × Ob)} (hO : ∀ p ∈ O, getK obs p.1 = some p.2) (i : Nat) : getK obs i = getK (delL obs (O.map (·.1)) ++ O) i := by
 rw [delL_filter, getK_append, getK_filterN]
 by_cases hy : (O.map (·.1)).contains i = true
 ·rw [if_pos hy]
  obtain ⟨x, hx⟩ := getK_isSome (l := O) (y := i) (by simpa using hy)
  rw [hx, hO _ (getK_memK hx)]
 ·rw [if_neg hy, getK_keys O i (by simpa using hy)]
  cases getK obs i <;> rfl
theorem delL_none {obs O : List (Nat × Ob)} (i : Nat) (ob : Ob) (h : getK (delL obs (O.map (·.1))) i = some ob) : getK O i = none := by
 rw [delL_filter, getK_filterN] at h
 by_cases hc : (O.map (·.1)).contains i = true
 ·rw [if_pos hc] at h; cases h
 ·exact getK_keys O i (by simpa using hc)
/-- A call that is handed objects, and goes through. -/
theorem CallP.okL {P : Program} {Γ : Ctx} {s : St} {k : St → Prop} {dst : Option Tmp} {fop : Operand} {args : List Operand} {f caps} {ds : List D} {O O' : List (Nat × Ob)} {d : D} {N : Nat}
  (hret : RetX P f ds O s.next fun r o n => r = .val d ∧ o = O' ∧ n = N) (hO : ∀ p ∈ O, getK s.obs p.1 = some p.2)
  (hf : calleeOf (opd s fop) = some (f, caps)) (hc : callable P f = true) (hds : args.map (opd s) ++ caps = ds) (hp : putOK dst s)
  (hk : k (({ s with obs := delL s.obs (O.map (·.1)) ++ O', next := N } : St).put dst d)) : CallP P Γ fop args dst s k :=
 CallP.xF (delL s.obs (O.map (·.1))) O hret (delL_heq hO) delL_none hf hc hds hp (fun d' o1 nx' _ ⟨h1, h2, h3⟩ => by cases h1; subst h2; subst h3; exact hk) (fun ch o1 nx' _ ⟨h1, _⟩ => by cases h1)
/-- A call that is handed objects, and panics. -/
theorem CallP.panL {P : Program} {Γ : Ctx} {s : St} {k : St → Prop} {dst : Option Tmp} {fop : Operand} {args : List Operand} {f caps} {ds : List D} {O O' : List (Nat × Ob)} {ch : List PanicEntry}
  (hret : RetX P f ds O s.next fun r o n => r = .pan ch ∧ o = O' ∧ n = s.next) (hO : ∀ p ∈ O, getK s.obs p.1 = some p.2)
  (hf : calleeOf (opd s fop) = some (f, caps)) (hc : callable P f = true) (hds : args.map (opd s) ++ caps = ds) (hp : putOK dst s)
  (hx : ∃ s2, Wk Γ { s with obs := delL s.obs (O.map (·.1)) ++ O', next := s.next } s2 ∧ Γ.pan ch s2) : CallP P Γ fop args dst s k :=
 CallP.xF (delL s.obs (O.map (·.1))) O hret (delL_heq hO) delL_none hf hc hds hp (fun d' o1 nx' _ ⟨h1, _⟩ => by cases h1) (fun ch' o1 nx' _ ⟨h1, h2, h3⟩ => by cases h1; subst h2; subst h3; exact hx)
theorem HD4_okL {P : Program} {Γ : Ctx} {N : Nat} {s : St} {dst : Option Tmp} {rest fp C k} {fop : Operand} {args : Array Operand} {ts : Array TypeId} {f caps} {ds : List D} {d : D} {O O' : List (Nat × Ob)}
  (hret : ∀ nx, s.next ≤ nx → RetX P f ds O nx fun r o n => r = .val d ∧ o = O' ∧ n = nx)
  (hO : ∀ p ∈ O, getK s.obs p.1 = some p.2) (hkeys : O'.map (·.1) = O.map (·.1)) (hnd : (O.map (·.1)).Nodup)
  (hf : calleeOf (opd s fop) = some (f, caps)) (hc : callable P f = true) (hds : args.toList.map (opd s) ++ caps = ds)
  (hu : d.under N = true ∧ ∀ p ∈ O', p.2.under N = true) (hp : putOK dst s)
  (h : HD4 P Γ N rest (({ s with obs := applyW (O'.map fun p => (p.1, some p.2)) s.obs } : St).put dst d) (fp ++ [(O.map (·.1), O'.map (·.1), 0)]) C k) :
  HD4 P Γ N (⟨dst, .call { callee := .value fop, args, argTypes := ts }, none⟩ :: rest) s fp C k :=
 HD4_call O O' (fun nx hnx => (hret nx hnx).mono fun r o n ⟨h1, h2, h3⟩ => ⟨h1, fun y => by rw [h2], h3⟩) hf hc hds hkeys hO hnd hu hp h
/-- A call that changes the first one of the objects it is handed. -/
theorem HD4_okF {P : Program} {Γ : Ctx} {N : Nat} {s : St} {dst : Option Tmp} {rest fp C k} {fop : Operand} {args : Array Operand} {ts : Array TypeId} {f caps} {ds : List D} {d : D} {j : Nat} {ob ob' : Ob} {F : List (Nat × Ob)}
  (hret : ∀ nx, s.next ≤ nx → RetX P f ds ((j, ob) :: F) nx fun r o n => r = .val d ∧ (∀ y, getK o y = getK ((j, ob') :: F) y) ∧ n = nx)
  (hO : ∀ p ∈ (j, ob) :: F, getK s.obs p.1 = some p.2) (hnd : (((j, ob) :: F).map (·.1)).Nodup)
  (hf : calleeOf (opd s fop) = some (f, caps)) (hc : callable P f = true) (hds : args.toList.map (opd s) ++ caps = ds)
  (hu : d.under N = true ∧ ∀ p ∈ (j, ob') :: F, p.2.under N = true) (hp : putOK dst s)
  (h : HD4 P Γ N rest (({ s with obs := applyW [(j, some ob')] s.obs } : St).put dst d) (fp ++ [(j :: F.map (·.1), [j], 0)]) C k) :
  HD4 P Γ N (⟨dst, .call { callee := .value fop, args, argTypes := ts }, none⟩ :: rest) s fp C k := by
 have hj : ∀ p ∈ F, ¬ p.1 = j := fun p hp e => by
  rw [List.map_cons, List.nodup_cons] at hnd
  exact hnd.1 (List.mem_map.2 ⟨p, hp, e⟩)
 have hfl : (((j, ob') :: F).filter fun p => [j].contains p.1) = [(j, ob')] := by
  rw [List.filter_cons, if_pos (by simp)]
  congr 1
  refine List.filter_eq_nil_iff.2 fun p hp => ?_
  have := hj p hp
  simp only [List.contains_cons, List.contains_nil, Bool.or_false, beq_iff_eq]
  exact this
 refine HD4_callL ((j, ob) :: F) ((j, ob') :: F) [j] hret hf hc hds rfl (fun y hy => ?_) hO hnd hu hp ?_
 ·have : ¬ y = j := fun e => by subst e; simp at hy
  rw [getK_cons, getK_cons, if_neg this, if_neg this]
 ·rw [hfl]
  exact h
theorem HD4_panL {P : Program} {Γ : Ctx} {N : Nat} {s : St} {dst : Option Tmp} {rest fp C k} {fop : Operand} {args : Array Operand} {ts : Array TypeId} {f caps} {ds : List D} {O O' : List (Nat × Ob)} {ch : List PanicEntry}
  (hret : ∀ nx, s.next ≤ nx → RetX P f ds O nx fun r o n => r = .pan ch ∧ o = O' ∧ n = nx)
  (hO : ∀ p ∈ O, getK s.obs p.1 = some p.2)
  (hf : calleeOf (opd s fop) = some (f, caps)) (hc : callable P f = true) (hds : args.toList.map (opd s) ++ caps = ds) (hp : putOK dst s)
  (hx : ∀ env n, s.next ≤ n → ∃ s2, Wk Γ { n := s.n, env := env, obs := delL s.obs (O.map (·.1)) ++ O', next := n } s2 ∧ Γ.pan ch s2)
  (h : HD4 P Γ N rest (s.put dst .any) (fp ++ [([], [], 1)]) C k) :
  HD4 P Γ N (⟨dst, .call { callee := .value fop, args, argTypes := ts }, none⟩ :: rest) s fp C k := by
 refine HD4_stop (post := fun r o _ => r = .pan ch ∧ o = O') O (fun nx hnx => (hret nx hnx).mono fun r o n ⟨h1, h2, _⟩ => ⟨h1, h2⟩) (fun d o n h => by cases h.1) hf hc hds hO hp (fun env ch' o n hn h => ?_) h
 obtain ⟨h1, rfl⟩ := h
 cases h1
 rw [← delL_filter]
 exact hx env n hn
/-- A call behind one that panics. -/
theorem HD4_skipC {P Γ N s dst c g rest fp C k} (_ : (fp.any fun p => p.2.2 == 1) = true) (hp : putOK dst s) (h : HD4 P Γ N rest (s.put dst .any) (fp ++ [([], [], 2)]) C k) : HD4 P Γ N (⟨dst, .call c, g⟩ :: rest) s fp C k := HD4_skip hp h
/-- A function is left behind which a deferred one is called that is handed objects. -/
theorem LeaveD.of {P : Program} {Γb : Ctx} {fn : Func} {post : Out → List (Nat × Ob) → Nat → Prop} {g : FuncId} {caps : List D} {u : FrameMode} {s : St} (O : List (Nat × Ob)) {O' : List (Nat × Ob)} (hO : ∀ p ∈ O, getK s.obs p.1 = some p.2)
  (h : RetDf P g caps O s.next u fun u' o n => settle u' = .returning ∧ n = s.next ∧ o = O') (hk : EndW P Γb fn Γb.n0 (fun d o n => post (.val d) o n) .ret { s with obs := delL s.obs (O.map (·.1)) ++ O', next := s.next }) :
  LeaveD P Γb fn post g caps u s :=
 ((h.frame (delL s.obs (O.map (·.1))) delL_none).congr (delL_heq hO)).mono fun u' o n ⟨o1, ho, hs, hn, ho1⟩ => ⟨hs, by subst ho; subst ho1; subst hn; exact hk⟩
theorem nef {i nx : Nat} (h : i < nx) : ¬ i = nx ∧ ¬ nx = i ∧ (∀ k, ¬ i = nx + k) ∧ ∀ k, ¬ nx + k = i := ⟨by omega, by omega, fun k => by omega, fun k => by omega⟩
end Go.VL
namespace Go.Proofs.YtfcopibncpkdoaaDoor
open Go Go.VL
attribute [local simp] HS hcons hstep evPure opd uOf putOK St.put St.at getK binD binI binS binB nilD aggD eqUs cmpK lookD lookR rangeD nextD entryD keyD valU keyU lookK mkV entD_nil lookK_entD updK_entD1 updK_entD3 allUE allUE_entD makeMapD mapUpdD mapEff updK valM Key.kk shiftI arith unD convD pickD loadD cellsAt fieldAddrD fieldD indexAddrD indexD sliceD cutD lenD minmaxD nilCheckD buildD fillD cellsD isOne ones setAll mkAgg allU allocD boxD storeD St.add buildSliceD appendD rowsOf makeD setOb getK_setOb getK_del getK_cons stripL strip guardTmp entry chunks zcells valD argsV argsW argW argU1 argU0 argsU0 argsU1 calleeOf scalarD scalarU delAll effD St.effS RK_seq RK_seq_ret RK_seq_exit RK_blk RK_blk_ret RK_blk_exit RK_loop RK_loop_ret RK_loop_exit RK_done vs_seq vs_block vs_cond vs_region vs_loop vs_draw applyW mkD rdIds lentIds callOf calleeOf freeOp D.ids Op.operands Call.operands isEffOp makeIfD typeAssertD conc concs conc1 uOfV panicD IntKind.bits allU2 allU2_append List.take_of_length_le List.range_succ
attribute [local irreducible] V G H HD HD2 HD4 HD4h RetX RunK Eff CallP CallV EndOK Fun Ret FinOK LoopI LoopW EndW
theorem shareP_fun (lets : List Let) (e : Exp) : Fun Tryd.prog 99 [.u (letsU lets), eagg e] (· = .u (.bool (shareP lets e))) := by
 have h1 := judge_fun lets [] e
 have hk : okJ lets [] e = rightAll lets e := by simp [okJ]
 unfold shareP
 unfold judgeD at h1
 rw [hk] at h1
 cases hK : rightAll lets e
 ·rw [hK] at h1
  simp only [letsU, varsU, eagg, Bool.false_eq_true, if_false, List.map_nil] at h1 ⊢
  (refine Fun.of_body Tryd.func99 rfl (by simp) fun Γ hn => ?_); simp only [entry, List.zipIdx_cons, List.zipIdx_nil, List.map_cons, List.map_nil, Nat.zero_add, Tryd.ntmps99]
  repeat' (first
  | (refine H_cons ?_; simp)
  | (refine H_nil ?_; simp)
  | (refine V_sseq ?_; simp)
  | (refine V_ret ?_; simp only [RunK])
  | (refine CallP.fun_ (h1) (by first | rfl | fail) (by first | assumption | (simp; done) | fail) (by first | (simp; done) | (simp; rfl) | fail) (by first | (simp; done) | fail) (fun d hd => ?_); subst hd; (try simp))
  | fail)
  (refine EndOK.val (.inr rfl) ?_; simp [resD, oneOrTup, pureD, Tryd.results99])
 ·rw [hK] at h1
  have h2 := share_fun (gOf []) (mOf (gOf []) lets) 12 e (rights_out hK).2.1
  have hg : gOf [] = [] := rfl
  rw [hg] at h1 h2
  simp only [letsU, varsU, eagg, if_true, jU, List.map_nil] at h1 h2 ⊢
  generalize shareS (sF (mOf [] lets)) e = r at h2 ⊢
  (refine Fun.of_body Tryd.func99 rfl (by simp) fun Γ hn => ?_); simp only [entry, List.zipIdx_cons, List.zipIdx_nil, List.map_cons, List.map_nil, Nat.zero_add, Tryd.ntmps99]
  repeat' (first
  | (refine H_cons ?_; simp)
  | (refine H_nil ?_; simp)
  | (refine V_sseq ?_; simp)
  | (refine V_ret ?_; simp only [RunK])
  | (refine CallP.fun_ (h1) (by first | rfl | fail) (by first | assumption | (simp; done) | fail) (by first | (simp; done) | (simp; rfl) | fail) (by first | (simp; done) | fail) (fun d hd => ?_); subst hd; (try simp))
  | (refine CallP.fun_ (h2) (by first | rfl | fail) (by first | assumption | (simp; done) | fail) (by first | (simp; done) | (simp; rfl) | fail) (by first | (simp; done) | fail) (fun d hd => ?_); subst hd; (try simp))
  | fail)
  (refine EndOK.val (.inr rfl) ?_; simp [resD, oneOrTup, pureD, Tryd.results99])
/-- The panic of a fault. -/
def chF (e : Int) : List PanicEntry := [{ v := .iface 93 (.agg #[.int .i64 e]), recovered := false }]
def outV : Except Int Int → Out
 | .ok v => .val (.u (.int .i64 v))
 | .error e => .pan (chF e)
theorem truth_fun (b : Bool) : Fun Tryd.prog 75 [.u (.bool b)] (· = .u (.int .i64 (truthX b))) := by
 cases b
 all_goals
  (refine Fun.of_body Tryd.func75 rfl (by simp) fun Γ hn => ?_); simp only [entry, List.zipIdx_cons, List.zipIdx_nil, List.map_cons, List.map_nil, Nat.zero_add, Tryd.ntmps75]
  repeat' (first
  | (refine H_cons ?_; simp)
  | (refine H_nil ?_; simp)
  | (refine V_sseq ?_; simp)
  | (refine V_scond ?_; simp)
  | (refine V_ret ?_; simp only [RunK])
  | (refine V_skip ?_; simp only [RunK])
  | fail)
  (refine EndOK.val (.inr rfl) ?_; simp [resD, oneOrTup, pureD, Tryd.results75])
 all_goals (try rfl)
theorem check_ret (n : Int) (nx : Nat) : RetX Tryd.prog 73 [.u (.int .i64 n)] [] nx (fun r o m => r = outV (keptX n) ∧ o = [] ∧ m = nx) := by
 unfold keptX
 by_cases h1 : 1099511627776 < n
 ·(refine RetX.of_bodyW Tryd.func73 rfl (by simp) fun Γ hn hpan => ?_); simp only [entry, List.zipIdx_cons, List.zipIdx_nil, List.map_cons, List.map_nil, Nat.zero_add, Tryd.ntmps73]
  repeat' (first
  | (refine H_cons ?_; simp [h1])
  | (refine H_nil ?_; simp [h1])
  | (refine V_sseq ?_; simp [h1])
  | (refine V_scond ?_; simp [h1])
  | (refine V_sregion ?_; simp [h1])
  | fail)
  (refine hpan _ _ ⟨{ n := _, env := [], obs := [], next := nx }, (Wk.cut rfl (by simp [hn]) (by simp [wkO, getK_cons, getK, getK_append, getK_del, Ob.under, D.under, under_rowsD, under_entD]) (by simp [wkU, keepE, getK_cons, getK, D.under]) (by simp [wkE, keepE, getK_cons, getK])), by simp [hn], ?_⟩; try simp)
  all_goals try simp [h1, outV, chF]
 ·by_cases h2 : n < -1099511627776
  ·(refine RetX.of_bodyW Tryd.func73 rfl (by simp) fun Γ hn hpan => ?_); simp only [entry, List.zipIdx_cons, List.zipIdx_nil, List.map_cons, List.map_nil, Nat.zero_add, Tryd.ntmps73]
   repeat' (first
  | (refine H_cons ?_; simp [h1, h2])
  | (refine H_nil ?_; simp [h1, h2])
  | (refine V_sseq ?_; simp [h1, h2])
  | (refine V_scond ?_; simp [h1, h2])
  | (refine V_sregion ?_; simp [h1, h2])
  | fail)
   (refine hpan _ _ ⟨{ n := _, env := [], obs := [], next := nx }, (Wk.cut rfl (by simp [hn]) (by simp [wkO, getK_cons, getK, getK_append, getK_del, Ob.under, D.under, under_rowsD, under_entD]) (by simp [wkU, keepE, getK_cons, getK, D.under]) (by simp [wkE, keepE, getK_cons, getK])), by simp [hn], ?_⟩; try simp)
   all_goals try simp [h1, h2, outV, chF]
  ·(refine RetX.of_bodyW Tryd.func73 rfl (by simp) fun Γ hn hpan => ?_); simp only [entry, List.zipIdx_cons, List.zipIdx_nil, List.map_cons, List.map_nil, Nat.zero_add, Tryd.ntmps73]
   repeat' (first
  | (refine H_cons ?_; simp [h1, h2])
  | (refine H_nil ?_; simp [h1, h2])
  | (refine V_sseq ?_; simp [h1, h2])
  | (refine V_scond ?_; simp [h1, h2])
  | (refine V_ret ?_; simp only [RunK])
  | (refine V_skip ?_; simp only [RunK])
  | fail)
   (refine EndW.here ?_; (first | (refine EndOK.fin (.inr rfl) ?_) | (refine EndOK.fin (.inl rfl) ?_)); simp [resD, oneOrTup, Tryd.results73]; refine FinOK.here (by simp) ?_; try simp)
   all_goals try simp [h1, h2, outV]
theorem tdiv_bound (a b : Int) (hb : b ≠ 0) : (a.tdiv b).natAbs ≤ a.natAbs := by
 rw [Int.natAbs_tdiv]
 exact Nat.div_le_self _ _
theorem tdiv_mul_bound (a b : Int) : (a.tdiv b * b).natAbs ≤ a.natAbs := by
 rw [Int.natAbs_mul, Int.natAbs_tdiv]
 exact Nat.div_mul_le_self _ _
theorem floor_fun (a b : Int) (ha : -1000000000000000000 ≤ a ∧ a ≤ 1000000000000000000) (hb : b ≠ 0) (hb2 : -1000000000000000000 ≤ b ∧ b ≤ 1000000000000000000) :
  Fun Tryd.prog 101 [.u (.int .i64 a), .u (.int .i64 b)] (· = .u (.int .i64 (floorX a b))) := by
 have h1 := tdiv_bound a b hb
 have h2 := tdiv_mul_bound a b
 unfold floorX
 generalize hq : a.tdiv b = q at *
 generalize hp : q * b = p at *
 by_cases c1 : p = a
 ·(refine Fun.of_body Tryd.func101 rfl (by simp) fun Γ hn => ?_); simp only [entry, List.zipIdx_cons, List.zipIdx_nil, List.map_cons, List.map_nil, Nat.zero_add, Tryd.ntmps101]
  repeat' (first
  | (refine H_cons ?_; simp [hb, hq, hp, c1])
  | (refine H_nil ?_; simp [hb, hq, hp, c1])
  | (refine ⟨by omega, ?_⟩)
  | (refine V_sseq ?_; simp [hb, hq, hp, c1])
  | (refine V_scond ?_; simp [hb, hq, hp, c1])
  | (refine V_ret ?_; simp only [RunK])
  | (refine V_skip ?_; simp only [RunK])
  | fail)
  (refine EndOK.val (.inr rfl) ?_; simp [resD, oneOrTup, pureD, Tryd.results101])
  all_goals try simp [c1]
 ·by_cases c2 : a < 0 <;> by_cases c3 : b < 0
  all_goals
   (refine Fun.of_body Tryd.func101 rfl (by simp) fun Γ hn => ?_); simp only [entry, List.zipIdx_cons, List.zipIdx_nil, List.map_cons, List.map_nil, Nat.zero_add, Tryd.ntmps101]
   repeat' (first
  | (refine H_cons ?_; simp [hb, hq, hp, c1, c2, c3])
  | (refine H_nil ?_; simp [hb, hq, hp, c1, c2, c3])
  | (refine ⟨by omega, ?_⟩)
  | (refine V_sseq ?_; simp [hb, hq, hp, c1, c2, c3])
  | (refine V_scond ?_; simp [hb, hq, hp, c1, c2, c3])
  | (refine V_sregion ?_; simp [hb, hq, hp, c1, c2, c3])
  | (refine V_ret ?_; simp only [RunK])
  | (refine V_skip ?_; simp only [RunK])
  | fail)
   (refine EndOK.val (.inr rfl) ?_; simp [resD, oneOrTup, pureD, Tryd.results101])
  all_goals simp [c1, c2, c3]
theorem prod_bound {a b L : Int} (hL : 0 ≤ L) (h1 : ¬ L.tdiv (max a (-a)) < b) (h2 : ¬ b < (-L).tdiv (max a (-a))) : -L ≤ a * b ∧ a * b ≤ L := by
 have hm : (max a (-a)).natAbs = a.natAbs := by omega
 have h3 : (L.tdiv (max a (-a))).natAbs * a.natAbs ≤ L.natAbs := by
  rw [Int.natAbs_tdiv, hm]
  exact Nat.div_mul_le_self _ _
 have h4 : ((-L).tdiv (max a (-a))).natAbs * a.natAbs ≤ L.natAbs := by
  rw [Int.natAbs_tdiv, hm, Int.natAbs_neg]
  exact Nat.div_mul_le_self _ _
 have h5 : b.natAbs ≤ max (L.tdiv (max a (-a))).natAbs ((-L).tdiv (max a (-a))).natAbs := by omega
 have h6 : (a * b).natAbs ≤ L.natAbs := by
  rw [Int.natAbs_mul, Nat.mul_comm]
  refine Nat.le_trans (Nat.mul_le_mul_right _ h5) ?_
  rcases Nat.le_total (L.tdiv (max a (-a))).natAbs ((-L).tdiv (max a (-a))).natAbs with h | h
  ·rw [Nat.max_eq_right h]; exact h4
  ·rw [Nat.max_eq_left h]; exact h3
 omega
theorem product_ret (a b c : Int) (nx : Nat) (ha : inC a) (hb : inC b) (hc : 1 ≤ c ∧ c ≤ 1000) :
  RetX Tryd.prog 100 [.u (.int .i64 a), .u (.int .i64 b), .u (.int .i64 c)] [] nx (fun r o m => r = outV (prodX a b c) ∧ o = [] ∧ m = nx) := by
 unfold inC at ha hb
 unfold prodX
 have hm : a ≠ 0 → max a (-a) ≠ 0 := by omega
 have hL := prod_bound (a := a) (b := b) (L := 1099511627777 * c) (by omega)
 have q1 := tdiv_bound (1099511627777 * c) (max a (-a))
 have q2 := tdiv_bound (-(1099511627777 * c)) (max a (-a))
 generalize hl : (1099511627777 * c : Int) = L at *
 generalize hM : max a (-a) = M at *
 generalize hq1 : L.tdiv M = Q1 at *
 generalize hq2 : (-L).tdiv M = Q2 at *
 by_cases c0 : a = 0
 ·subst c0
  have hf := floor_fun 0 c (by omega) (by omega) (by omega)
  have hck := fun nx' => check_ret (floorX 0 c) nx'
  rw [if_neg (by simp)]
  simp only [Int.zero_mul]
  cases hk : keptX (floorX 0 c) with
  | ok v =>
   simp only [hk, outV] at hck ⊢
   (refine RetX.of_bodyW Tryd.func100 rfl (by simp) fun Γ hn hpan => ?_); simp only [entry, List.zipIdx_cons, List.zipIdx_nil, List.map_cons, List.map_nil, Nat.zero_add, Tryd.ntmps100]
   repeat' (first
  | (refine H_cons ?_; simp [hl, hM, hq1, hq2])
  | (refine H_nil ?_; simp [hl, hM, hq1, hq2])
  | (refine ⟨by omega, ?_⟩)
  | (refine V_sseq ?_; simp [hl, hM, hq1, hq2])
  | (refine V_scond ?_; simp [hl, hM, hq1, hq2])
  | (refine V_ret ?_; simp only [RunK])
  | (refine V_skip ?_; simp only [RunK])
  | (refine CallP.fun_ (hf) (by first | rfl | fail) (by first | assumption | (simp; done) | fail) (by first | (simp [hl, hM, hq1, hq2]; done) | (simp [hl, hM, hq1, hq2]; rfl) | fail) (by first | (simp; done) | fail) (fun d hd => ?_); subst hd; (try simp [hl, hM, hq1, hq2]))
  | (refine CallP.okL (hck _) (by first | (simp [hl, hM, hq1, hq2, getK_cons, getK, getK_append, getK_del, getK_setOb, applyW, del]; done) | fail) (by rfl) (by first | assumption | (simp; done) | fail) (by rfl) (by simp) ?_; (try simp [hl, hM, hq1, hq2, delL, del]))
  | fail)
   (refine EndW.here ?_; (first | (refine EndOK.fin (.inr rfl) ?_) | (refine EndOK.fin (.inl rfl) ?_)); simp [resD, oneOrTup, Tryd.results100]; refine FinOK.here (by simp) ?_; try simp)
  | error e =>
   simp only [hk, outV] at hck ⊢
   (refine RetX.of_bodyW Tryd.func100 rfl (by simp) fun Γ hn hpan => ?_); simp only [entry, List.zipIdx_cons, List.zipIdx_nil, List.map_cons, List.map_nil, Nat.zero_add, Tryd.ntmps100]
   repeat' (first
  | (refine H_cons ?_; simp [hl, hM, hq1, hq2])
  | (refine H_nil ?_; simp [hl, hM, hq1, hq2])
  | (refine ⟨by omega, ?_⟩)
  | (refine V_sseq ?_; simp [hl, hM, hq1, hq2])
  | (refine V_scond ?_; simp [hl, hM, hq1, hq2])
  | (refine V_skip ?_; simp only [RunK])
  | (refine CallP.fun_ (hf) (by first | rfl | fail) (by first | assumption | (simp; done) | fail) (by first | (simp [hl, hM, hq1, hq2]; done) | (simp [hl, hM, hq1, hq2]; rfl) | fail) (by first | (simp; done) | fail) (fun d hd => ?_); subst hd; (try simp [hl, hM, hq1, hq2]))
  | (refine CallP.panL (hck _) (by first | (simp [hl, hM, hq1, hq2, getK_cons, getK, getK_append, getK_del, getK_setOb, applyW, del]; done) | fail) (by rfl) (by first | assumption | (simp; done) | fail) (by rfl) (by simp) ?_; refine ⟨_, Wk.refl _, ?_⟩; (try simp [hl, hM, hq1, hq2, delL, del]))
  | fail)
   (refine hpan _ _ ⟨{ n := _, env := [], obs := [], next := nx }, (Wk.cut rfl (by simp [hn]) (by simp [wkO, getK_cons, getK, getK_append, getK_del, Ob.under, D.under, under_rowsD, under_entD]) (by simp [wkU, keepE, getK_cons, getK, D.under]) (by simp [wkE, keepE, getK_cons, getK])), by simp [hn], ?_⟩; try simp)
 have hM0 := hm c0
 have q1 := q1 hM0
 have q2 := q2 hM0
 by_cases c1 : Q1 < b
 ·rw [if_pos ⟨c0, .inl c1⟩]
  (refine RetX.of_bodyW Tryd.func100 rfl (by simp) fun Γ hn hpan => ?_); simp only [entry, List.zipIdx_cons, List.zipIdx_nil, List.map_cons, List.map_nil, Nat.zero_add, Tryd.ntmps100]
  repeat' (first
  | (refine H_cons ?_; simp [c0, c1, hl, hM, hM0, hq1, hq2])
  | (refine H_nil ?_; simp [c0, c1, hl, hM, hM0, hq1, hq2])
  | (refine ⟨by omega, ?_⟩)
  | (refine V_sseq ?_; simp [c0, c1, hl, hM, hM0, hq1, hq2])
  | (refine V_scond ?_; simp [c0, c1, hl, hM, hM0, hq1, hq2])
  | (refine V_sregion ?_; simp [c0, c1, hl, hM, hM0, hq1, hq2])
  | fail)
  (refine hpan _ _ ⟨{ n := _, env := [], obs := [], next := nx }, (Wk.cut rfl (by simp [hn]) (by simp [wkO, getK_cons, getK, getK_append, getK_del, Ob.under, D.under, under_rowsD, under_entD]) (by simp [wkU, keepE, getK_cons, getK, D.under]) (by simp [wkE, keepE, getK_cons, getK])), by simp [hn], ?_⟩; try simp)
  all_goals (try simp [outV, chF])
 by_cases c2 : b < Q2
 ·rw [if_pos ⟨c0, .inr c2⟩]
  (refine RetX.of_bodyW Tryd.func100 rfl (by simp) fun Γ hn hpan => ?_); simp only [entry, List.zipIdx_cons, List.zipIdx_nil, List.map_cons, List.map_nil, Nat.zero_add, Tryd.ntmps100]
  repeat' (first
  | (refine H_cons ?_; simp [c0, c1, c2, hl, hM, hM0, hq1, hq2])
  | (refine H_nil ?_; simp [c0, c1, c2, hl, hM, hM0, hq1, hq2])
  | (refine ⟨by omega, ?_⟩)
  | (refine V_sseq ?_; simp [c0, c1, c2, hl, hM, hM0, hq1, hq2])
  | (refine V_scond ?_; simp [c0, c1, c2, hl, hM, hM0, hq1, hq2])
  | (refine V_sregion ?_; simp [c0, c1, c2, hl, hM, hM0, hq1, hq2])
  | fail)
  (refine hpan _ _ ⟨{ n := _, env := [], obs := [], next := nx }, (Wk.cut rfl (by simp [hn]) (by simp [wkO, getK_cons, getK, getK_append, getK_del, Ob.under, D.under, under_rowsD, under_entD]) (by simp [wkU, keepE, getK_cons, getK, D.under]) (by simp [wkE, keepE, getK_cons, getK])), by simp [hn], ?_⟩; try simp)
  all_goals (try simp [outV, chF])
 rw [if_neg (by rintro ⟨_, h | h⟩ <;> contradiction)]
 obtain ⟨hL1, hL2⟩ := hL c1 c2
 have hf := floor_fun (a * b) c (by omega) (by omega) (by omega)
 have hck := fun nx' => check_ret (floorX (a * b) c) nx'
 cases hk : keptX (floorX (a * b) c) with
 | ok v =>
  simp only [hk, outV] at hck ⊢
  (refine RetX.of_bodyW Tryd.func100 rfl (by simp) fun Γ hn hpan => ?_); simp only [entry, List.zipIdx_cons, List.zipIdx_nil, List.map_cons, List.map_nil, Nat.zero_add, Tryd.ntmps100]
  repeat' (first
  | (refine H_cons ?_; simp [c0, c1, c2, hl, hM, hM0, hq1, hq2])
  | (refine H_nil ?_; simp [c0, c1, c2, hl, hM, hM0, hq1, hq2])
  | (refine ⟨by omega, ?_⟩)
  | (refine V_sseq ?_; simp [c0, c1, c2, hl, hM, hM0, hq1, hq2])
  | (refine V_scond ?_; simp [c0, c1, c2, hl, hM, hM0, hq1, hq2])
  | (refine V_ret ?_; simp only [RunK])
  | (refine V_skip ?_; simp only [RunK])
  | (refine CallP.fun_ (hf) (by first | rfl | fail) (by first | assumption | (simp; done) | fail) (by first | (simp [c0, c1, c2, hl, hM, hM0, hq1, hq2]; done) | (simp [c0, c1, c2, hl, hM, hM0, hq1, hq2]; rfl) | fail) (by first | (simp; done) | fail) (fun d hd => ?_); subst hd; (try simp [c0, c1, c2, hl, hM, hM0, hq1, hq2]))
  | (refine CallP.okL (hck _) (by first | (simp [c0, c1, c2, hl, hM, hM0, hq1, hq2, getK_cons, getK, getK_append, getK_del, getK_setOb, applyW, del]; done) | fail) (by rfl) (by first | assumption | (simp; done) | fail) (by rfl) (by simp) ?_; (try simp [c0, c1, c2, hl, hM, hM0, hq1, hq2, delL, del]))
  | fail)
  (refine EndW.here ?_; (first | (refine EndOK.fin (.inr rfl) ?_) | (refine EndOK.fin (.inl rfl) ?_)); simp [resD, oneOrTup, Tryd.results100]; refine FinOK.here (by simp) ?_; try simp)
 | error e =>
  simp only [hk, outV] at hck ⊢
  (refine RetX.of_bodyW Tryd.func100 rfl (by simp) fun Γ hn hpan => ?_); simp only [entry, List.zipIdx_cons, List.zipIdx_nil, List.map_cons, List.map_nil, Nat.zero_add, Tryd.ntmps100]
  repeat' (first
  | (refine H_cons ?_; simp [c0, c1, c2, hl, hM, hM0, hq1, hq2])
  | (refine H_nil ?_; simp [c0, c1, c2, hl, hM, hM0, hq1, hq2])
  | (refine ⟨by omega, ?_⟩)
  | (refine V_sseq ?_; simp [c0, c1, c2, hl, hM, hM0, hq1, hq2])
  | (refine V_scond ?_; simp [c0, c1, c2, hl, hM, hM0, hq1, hq2])
  | (refine V_skip ?_; simp only [RunK])
  | (refine CallP.fun_ (hf) (by first | rfl | fail) (by first | assumption | (simp; done) | fail) (by first | (simp [c0, c1, c2, hl, hM, hM0, hq1, hq2]; done) | (simp [c0, c1, c2, hl, hM, hM0, hq1, hq2]; rfl) | fail) (by first | (simp; done) | fail) (fun d hd => ?_); subst hd; (try simp [c0, c1, c2, hl, hM, hM0, hq1, hq2]))
  | (refine CallP.panL (hck _) (by first | (simp [c0, c1, c2, hl, hM, hM0, hq1, hq2, getK_cons, getK, getK_append, getK_del, getK_setOb, applyW, del]; done) | fail) (by rfl) (by first | assumption | (simp; done) | fail) (by rfl) (by simp) ?_; refine ⟨_, Wk.refl _, ?_⟩; (try simp [c0, c1, c2, hl, hM, hM0, hq1, hq2, delL, del]))
  | fail)
  (refine hpan _ _ ⟨{ n := _, env := [], obs := [], next := nx }, (Wk.cut rfl (by simp [hn]) (by simp [wkO, getK_cons, getK, getK_append, getK_del, Ob.under, D.under, under_rowsD, under_entD]) (by simp [wkU, keepE, getK_cons, getK, D.under]) (by simp [wkE, keepE, getK_cons, getK])), by simp [hn], ?_⟩; try simp)
abbrev mOb (lets : List Let) (r : Nat) (g : GM) : Ob := .box [.u (letsU lets), .vec r lets.length, .u (.map .s false (gmap g))]
theorem binary_ret (lets : List Let) (r : Nat) (g : GM) (m nx : Nat) (hm : m < nx) (hr : r < nx) (e x y : Exp) (a b : Int) (n : Nat) (hnl : n ≤ lets.length) (hl : lets.length ≤ 20) (he : e.args = [x, y]) (ha : inC a) (hb : inC b)
  (hop : 2 ≤ e.op ∧ e.op ≤ 9) :
  RetX Tryd.prog 76 [.ptr m 0, eagg e, .u (.int .i64 a), .u (.int .i64 b), .u (.int .i64 n)] [(m, mOb lets r g)] nx
   (fun o obs n' => o = outV (binX e.op (shareP (lets.take n) x || shareP (lets.take n) y) a b) ∧ obs = [(m, mOb lets r g)] ∧ n' = nx) := by
 have hne := nef hm
 have hab := ha
 have hbb := hb
 unfold inC at ha hb
 have hf := truth_fun true
 unfold mOb letsU eagg
 rw [he]
 simp only [List.map_cons, List.map_nil]
 by_cases c : e.op = 2
 ·obtain ⟨Z, hZ⟩ : ∃ Z, a + b = Z := ⟨_, rfl⟩
  have hck := fun nx' => check_ret Z nx'
  rw [c, show ∀ sh, binX 2 sh a b = keptX Z from fun sh => by rw [← hZ]; rfl]
  cases hk : keptX Z with
  | ok v =>
   simp only [hk, outV] at hck ⊢
   (refine RetX.of_bodyW Tryd.func76 rfl (by simp) fun Γ hn hpan => ?_); simp only [entry, List.zipIdx_cons, List.zipIdx_nil, List.map_cons, List.map_nil, Nat.zero_add, Tryd.ntmps76]
   repeat' (first
  | (refine H_cons ?_; simp [c, hne, hZ])
  | (refine H_nil ?_; simp [c, hne, hZ])
  | (refine ⟨by omega, ?_⟩)
  | (refine V_sseq ?_; simp [c, hne, hZ])
  | (refine V_scond ?_; simp [c, hne, hZ])
  | (refine V_sblock ?_; simp [c, hne, hZ])
  | (refine V_ret ?_; simp only [RunK])
  | (refine CallP.okL (hck _) (by first | (simp [c, hne, hZ, getK_cons, getK, getK_append, getK_del, getK_setOb, applyW, del]; done) | fail) (by rfl) (by first | assumption | (simp; done) | fail) (by rfl) (by simp) ?_; (try simp [c, hne, hZ, delL, del]))
  | fail)
   (refine EndW.here ?_; (first | (refine EndOK.fin (.inr rfl) ?_) | (refine EndOK.fin (.inl rfl) ?_)); simp [resD, oneOrTup, Tryd.results76, hne, hm, hr, letsU]; refine FinOK.cut [(m, mOb lets r g)] (nx) (by simp [getK_cons, getK, getK_append, getK_del, Ob.under, D.under, under_rowsD, under_entD, hne, hm, hr, letsU] <;> omega) (by simp [D.under]) (by simp [hn]) ?_; try simp)
   all_goals rfl
  | error err =>
   simp only [hk, outV] at hck ⊢
   (refine RetX.of_bodyW Tryd.func76 rfl (by simp) fun Γ hn hpan => ?_); simp only [entry, List.zipIdx_cons, List.zipIdx_nil, List.map_cons, List.map_nil, Nat.zero_add, Tryd.ntmps76]
   repeat' (first
  | (refine H_cons ?_; simp [c, hne, hZ])
  | (refine H_nil ?_; simp [c, hne, hZ])
  | (refine ⟨by omega, ?_⟩)
  | (refine V_sseq ?_; simp [c, hne, hZ])
  | (refine V_scond ?_; simp [c, hne, hZ])
  | (refine V_sblock ?_; simp [c, hne, hZ])
  | (refine CallP.panL (hck _) (by first | (simp [c, hne, hZ, getK_cons, getK, getK_append, getK_del, getK_setOb, applyW, del]; done) | fail) (by rfl) (by first | assumption | (simp; done) | fail) (by rfl) (by simp) ?_; refine ⟨_, Wk.refl _, ?_⟩; (try simp [c, hne, hZ, delL, del]))
  | fail)
   (refine hpan _ _ ⟨{ n := _, env := [], obs := [(m, mOb lets r g)], next := nx }, (Wk.cut rfl (by simp [hn]) (by simp [wkO, getK_cons, getK, getK_append, getK_del, Ob.under, D.under, under_rowsD, under_entD, hm, hr, hne, letsU, getK_append, getK_del, getK_cons, getK]) (by simp [wkU, keepE, getK_cons, getK, D.under, hm, hr, hne, letsU, getK_append, getK_del, getK_cons, getK]) (by simp [wkE, keepE, getK_cons, getK, hm, hr, hne, letsU, getK_append, getK_del, getK_cons, getK])), by simp [hn], ?_⟩; try simp)
   all_goals rfl
 by_cases c : e.op = 3
 ·obtain ⟨Z, hZ⟩ : ∃ Z, a - b = Z := ⟨_, rfl⟩
  have hck := fun nx' => check_ret Z nx'
  rw [c, show ∀ sh, binX 3 sh a b = keptX Z from fun sh => by rw [← hZ]; rfl]
  cases hk : keptX Z with
  | ok v =>
   simp only [hk, outV] at hck ⊢
   (refine RetX.of_bodyW Tryd.func76 rfl (by simp) fun Γ hn hpan => ?_); simp only [entry, List.zipIdx_cons, List.zipIdx_nil, List.map_cons, List.map_nil, Nat.zero_add, Tryd.ntmps76]
   repeat' (first
  | (refine H_cons ?_; simp [c, hne, hZ])
  | (refine H_nil ?_; simp [c, hne, hZ])
  | (refine ⟨by omega, ?_⟩)
  | (refine V_sseq ?_; simp [c, hne, hZ])
  | (refine V_scond ?_; simp [c, hne, hZ])
  | (refine V_sblock ?_; simp [c, hne, hZ])
  | (refine V_ret ?_; simp only [RunK])
  | (refine CallP.okL (hck _) (by first | (simp [c, hne, hZ, getK_cons, getK, getK_append, getK_del, getK_setOb, applyW, del]; done) | fail) (by rfl) (by first | assumption | (simp; done) | fail) (by rfl) (by simp) ?_; (try simp [c, hne, hZ, delL, del]))
  | fail)
   (refine EndW.here ?_; (first | (refine EndOK.fin (.inr rfl) ?_) | (refine EndOK.fin (.inl rfl) ?_)); simp [resD, oneOrTup, Tryd.results76, hne, hm, hr, letsU]; refine FinOK.cut [(m, mOb lets r g)] (nx) (by simp [getK_cons, getK, getK_append, getK_del, Ob.under, D.under, under_rowsD, under_entD, hne, hm, hr, letsU] <;> omega) (by simp [D.under]) (by simp [hn]) ?_; try simp)
   all_goals rfl
  | error err =>
   simp only [hk, outV] at hck ⊢
   (refine RetX.of_bodyW Tryd.func76 rfl (by simp) fun Γ hn hpan => ?_); simp only [entry, List.zipIdx_cons, List.zipIdx_nil, List.map_cons, List.map_nil, Nat.zero_add, Tryd.ntmps76]
   repeat' (first
  | (refine H_cons ?_; simp [c, hne, hZ])
  | (refine H_nil ?_; simp [c, hne, hZ])
  | (refine ⟨by omega, ?_⟩)
  | (refine V_sseq ?_; simp [c, hne, hZ])
  | (refine V_scond ?_; simp [c, hne, hZ])
  | (refine V_sblock ?_; simp [c, hne, hZ])
  | (refine CallP.panL (hck _) (by first | (simp [c, hne, hZ, getK_cons, getK, getK_append, getK_del, getK_setOb, applyW, del]; done) | fail) (by rfl) (by first | assumption | (simp; done) | fail) (by rfl) (by simp) ?_; refine ⟨_, Wk.refl _, ?_⟩; (try simp [c, hne, hZ, delL, del]))
  | fail)
   (refine hpan _ _ ⟨{ n := _, env := [], obs := [(m, mOb lets r g)], next := nx }, (Wk.cut rfl (by simp [hn]) (by simp [wkO, getK_cons, getK, getK_append, getK_del, Ob.under, D.under, under_rowsD, under_entD, hm, hr, hne, letsU, getK_append, getK_del, getK_cons, getK]) (by simp [wkU, keepE, getK_cons, getK, D.under, hm, hr, hne, letsU, getK_append, getK_del, getK_cons, getK]) (by simp [wkE, keepE, getK_cons, getK, hm, hr, hne, letsU, getK_append, getK_del, getK_cons, getK])), by simp [hn], ?_⟩; try simp)
   all_goals rfl
 by_cases c : e.op = 4
 ·have hs1 := shareP_fun (lets.take n) x
  have hs2 := shareP_fun (lets.take n) y
  rw [c]
  simp only [letsU, List.map_take, eagg] at hs1 hs2
  rw [Exp.row_eq x, Exp.row_eq y]
  cases hx : shareP (lets.take n) x
  ·rw [hx] at hs1
   cases hy : shareP (lets.take n) y
   ·rw [hy] at hs2
    have hck := fun nx' => product_ret a b 1 nx' hab hbb (by omega)
    rw [show binX 4 (false || false) a b = prodX a b 1 from rfl]
    cases hk : prodX a b 1 with
    | ok v =>
     simp only [hk, outV] at hck ⊢
     (refine RetX.of_bodyW Tryd.func76 rfl (by simp) fun Γ hn hpan => ?_); simp only [entry, List.zipIdx_cons, List.zipIdx_nil, List.map_cons, List.map_nil, Nat.zero_add, Tryd.ntmps76]
     repeat' (first
  | (refine H_cons ?_; simp [c, hne, del])
  | (refine HD4_val rfl ?_; simp [c, hne, del])
  | (refine HD4h_val rfl ?_; simp [c, hne, del])
  | (refine H_nil ?_; simp [c, hne, del])
  | (refine ⟨by omega, ?_⟩)
  | (refine V_sseq ?_; simp [c, hne, del])
  | (refine V_scond ?_; simp [c, hne, del])
  | (refine HD4_nil (hC _ (okP4_ren [m] nx (by simp <;> omega) (by simp <;> omega) (by apply Exists.intro; apply And.intro; (focus (repeat' (first | exact KF.nil | exact KL.nil | apply KF.cons | apply KL.cons 0 rfl | apply KL.cons 1 rfl | apply KL.cons 2 rfl | apply KL.cons 3 rfl | apply KL.cons 4 rfl | apply KL.cons 5 rfl | apply KL.cons 6 rfl | apply KL.cons 7 rfl | apply KL.cons 8 rfl | apply KL.cons 9 rfl))); kernel_rfl))) (hk _ ?_); clear hC hk C k; simp only [RunK])
  | (refine V_drawX rfl (by kernel_rfl) (by first | (simp [hn]; done) | (simp [hn]; omega) | fail) fun C k hC hk => ?_; simp [c, hne, del])
  | (refine HD4_guard rfl (by simp [c, hne, del]) (fun hc => ?_) (fun hc => ?_) <;> (try simp [c, hne, del] at hc) <;> (try (exfalso; omega)) <;> (try simp [c, hne, del]))
  | (refine V_sblock ?_; simp [c, hne, del])
  | (refine V_ret ?_; simp only [RunK])
  | (refine V_skip ?_; simp only [RunK])
  | (refine CallV.fun_ (hs1) (by first | rfl | fail) (by first | assumption | (simp; done) | fail) (by first | (simp [c, hne, del]; done) | (simp [c, hne, del]; rfl) | fail) (by first | (simp; done) | fail) ?_ <;> (try simp [c, hne, del]))
  | (refine CallV.fun_ (hs2) (by first | rfl | fail) (by first | assumption | (simp; done) | fail) (by first | (simp [c, hne, del]; done) | (simp [c, hne, del]; rfl) | fail) (by first | (simp; done) | fail) ?_ <;> (try simp [c, hne, del]))
  | (refine CallP.okL (hck _) (by first | (simp [c, hne, del, getK_cons, getK, getK_append, getK_del, getK_setOb, applyW, del]; done) | fail) (by rfl) (by first | assumption | (simp; done) | fail) (by rfl) (by simp) ?_; (try simp [c, hne, del, delL, del]))
  | fail)
     (refine EndW.here ?_; (first | (refine EndOK.fin (.inr rfl) ?_) | (refine EndOK.fin (.inl rfl) ?_)); simp [resD, oneOrTup, Tryd.results76, hne, hm, hr, letsU]; refine FinOK.cut [(m, mOb lets r g)] (nx) (by simp [getK_cons, getK, getK_append, getK_del, Ob.under, D.under, under_rowsD, under_entD, hne, hm, hr, letsU] <;> omega) (by simp [D.under]) (by simp [hn]) ?_; try simp)
     all_goals rfl
    | error err =>
     simp only [hk, outV] at hck ⊢
     (refine RetX.of_bodyW Tryd.func76 rfl (by simp) fun Γ hn hpan => ?_); simp only [entry, List.zipIdx_cons, List.zipIdx_nil, List.map_cons, List.map_nil, Nat.zero_add, Tryd.ntmps76]
     repeat' (first
  | (refine H_cons ?_; simp [c, hne, del])
  | (refine HD4_val rfl ?_; simp [c, hne, del])
  | (refine HD4h_val rfl ?_; simp [c, hne, del])
  | (refine H_nil ?_; simp [c, hne, del])
  | (refine ⟨by omega, ?_⟩)
  | (refine V_sseq ?_; simp [c, hne, del])
  | (refine V_scond ?_; simp [c, hne, del])
  | (refine HD4_nil (hC _ (okP4_ren [m] nx (by simp <;> omega) (by simp <;> omega) (by apply Exists.intro; apply And.intro; (focus (repeat' (first | exact KF.nil | exact KL.nil | apply KF.cons | apply KL.cons 0 rfl | apply KL.cons 1 rfl | apply KL.cons 2 rfl | apply KL.cons 3 rfl | apply KL.cons 4 rfl | apply KL.cons 5 rfl | apply KL.cons 6 rfl | apply KL.cons 7 rfl | apply KL.cons 8 rfl | apply KL.cons 9 rfl))); kernel_rfl))) (hk _ ?_); clear hC hk C k; simp only [RunK])
  | (refine V_drawX rfl (by kernel_rfl) (by first | (simp [hn]; done) | (simp [hn]; omega) | fail) fun C k hC hk => ?_; simp [c, hne, del])
  | (refine HD4_guard rfl (by simp [c, hne, del]) (fun hc => ?_) (fun hc => ?_) <;> (try simp [c, hne, del] at hc) <;> (try (exfalso; omega)) <;> (try simp [c, hne, del]))
  | (refine V_sblock ?_; simp [c, hne, del])
  | (refine V_skip ?_; simp only [RunK])
  | (refine CallV.fun_ (hs1) (by first | rfl | fail) (by first | assumption | (simp; done) | fail) (by first | (simp [c, hne, del]; done) | (simp [c, hne, del]; rfl) | fail) (by first | (simp; done) | fail) ?_ <;> (try simp [c, hne, del]))
  | (refine CallV.fun_ (hs2) (by first | rfl | fail) (by first | assumption | (simp; done) | fail) (by first | (simp [c, hne, del]; done) | (simp [c, hne, del]; rfl) | fail) (by first | (simp; done) | fail) ?_ <;> (try simp [c, hne, del]))
  | (refine CallP.panL (hck _) (by first | (simp [c, hne, del, getK_cons, getK, getK_append, getK_del, getK_setOb, applyW, del]; done) | fail) (by rfl) (by first | assumption | (simp; done) | fail) (by rfl) (by simp) ?_; refine ⟨_, Wk.refl _, ?_⟩; (try simp [c, hne, del, delL, del]))
  | fail)
     (refine hpan _ _ ⟨{ n := _, env := [], obs := [(m, mOb lets r g)], next := nx }, (Wk.cut rfl (by simp [hn]) (by simp [wkO, getK_cons, getK, getK_append, getK_del, Ob.under, D.under, under_rowsD, under_entD, hm, hr, hne, letsU, getK_append, getK_del, getK_cons, getK]) (by simp [wkU, keepE, getK_cons, getK, D.under, hm, hr, hne, letsU, getK_append, getK_del, getK_cons, getK]) (by simp [wkE, keepE, getK_cons, getK, hm, hr, hne, letsU, getK_append, getK_del, getK_cons, getK])), by simp [hn], ?_⟩; try simp)
     all_goals rfl
   ·rw [hy] at hs2
    have hck := fun nx' => product_ret a b 1000 nx' hab hbb (by omega)
    rw [show binX 4 (false || true) a b = prodX a b 1000 from rfl]
    cases hk : prodX a b 1000 with
    | ok v =>
     simp only [hk, outV] at hck ⊢
     (refine RetX.of_bodyW Tryd.func76 rfl (by simp) fun Γ hn hpan => ?_); simp only [entry, List.zipIdx_cons, List.zipIdx_nil, List.map_cons, List.map_nil, Nat.zero_add, Tryd.ntmps76]
     repeat' (first
  | (refine H_cons ?_; simp [c, hne, del])
  | (refine HD4_val rfl ?_; simp [c, hne, del])
  | (refine HD4h_val rfl ?_; simp [c, hne, del])
  | (refine H_nil ?_; simp [c, hne, del])
  | (refine ⟨by omega, ?_⟩)
  | (refine V_sseq ?_; simp [c, hne, del])
  | (refine V_scond ?_; simp [c, hne, del])
  | (refine HD4_nil (hC _ (okP4_ren [m] nx (by simp <;> omega) (by simp <;> omega) (by apply Exists.intro; apply And.intro; (focus (repeat' (first | exact KF.nil | exact KL.nil | apply KF.cons | apply KL.cons 0 rfl | apply KL.cons 1 rfl | apply KL.cons 2 rfl | apply KL.cons 3 rfl | apply KL.cons 4 rfl | apply KL.cons 5 rfl | apply KL.cons 6 rfl | apply KL.cons 7 rfl | apply KL.cons 8 rfl | apply KL.cons 9 rfl))); kernel_rfl))) (hk _ ?_); clear hC hk C k; simp only [RunK])
  | (refine V_drawX rfl (by kernel_rfl) (by first | (simp [hn]; done) | (simp [hn]; omega) | fail) fun C k hC hk => ?_; simp [c, hne, del])
  | (refine HD4_guard rfl (by simp [c, hne, del]) (fun hc => ?_) (fun hc => ?_) <;> (try simp [c, hne, del] at hc) <;> (try (exfalso; omega)) <;> (try simp [c, hne, del]))
  | (refine V_sblock ?_; simp [c, hne, del])
  | (refine V_ret ?_; simp only [RunK])
  | (refine CallV.fun_ (hs1) (by first | rfl | fail) (by first | assumption | (simp; done) | fail) (by first | (simp [c, hne, del]; done) | (simp [c, hne, del]; rfl) | fail) (by first | (simp; done) | fail) ?_ <;> (try simp [c, hne, del]))
  | (refine CallV.fun_ (hs2) (by first | rfl | fail) (by first | assumption | (simp; done) | fail) (by first | (simp [c, hne, del]; done) | (simp [c, hne, del]; rfl) | fail) (by first | (simp; done) | fail) ?_ <;> (try simp [c, hne, del]))
  | (refine CallP.okL (hck _) (by first | (simp [c, hne, del, getK_cons, getK, getK_append, getK_del, getK_setOb, applyW, del]; done) | fail) (by rfl) (by first | assumption | (simp; done) | fail) (by rfl) (by simp) ?_; (try simp [c, hne, del, delL, del]))
  | fail)
     (refine EndW.here ?_; (first | (refine EndOK.fin (.inr rfl) ?_) | (refine EndOK.fin (.inl rfl) ?_)); simp [resD, oneOrTup, Tryd.results76, hne, hm, hr, letsU]; refine FinOK.cut [(m, mOb lets r g)] (nx) (by simp [getK_cons, getK, getK_append, getK_del, Ob.under, D.under, under_rowsD, under_entD, hne, hm, hr, letsU] <;> omega) (by simp [D.under]) (by simp [hn]) ?_; try simp)
     all_goals rfl
    | error err =>
     simp only [hk, outV] at hck ⊢
     (refine RetX.of_bodyW Tryd.func76 rfl (by simp) fun Γ hn hpan => ?_); simp only [entry, List.zipIdx_cons, List.zipIdx_nil, List.map_cons, List.map_nil, Nat.zero_add, Tryd.ntmps76]
     repeat' (first
  | (refine H_cons ?_; simp [c, hne, del])
  | (refine HD4_val rfl ?_; simp [c, hne, del])
  | (refine HD4h_val rfl ?_; simp [c, hne, del])
  | (refine H_nil ?_; simp [c, hne, del])
  | (refine ⟨by omega, ?_⟩)
  | (refine V_sseq ?_; simp [c, hne, del])
  | (refine V_scond ?_; simp [c, hne, del])
  | (refine HD4_nil (hC _ (okP4_ren [m] nx (by simp <;> omega) (by simp <;> omega) (by apply Exists.intro; apply And.intro; (focus (repeat' (first | exact KF.nil | exact KL.nil | apply KF.cons | apply KL.cons 0 rfl | apply KL.cons 1 rfl | apply KL.cons 2 rfl | apply KL.cons 3 rfl | apply KL.cons 4 rfl | apply KL.cons 5 rfl | apply KL.cons 6 rfl | apply KL.cons 7 rfl | apply KL.cons 8 rfl | apply KL.cons 9 rfl))); kernel_rfl))) (hk _ ?_); clear hC hk C k; simp only [RunK])
  | (refine V_drawX rfl (by kernel_rfl) (by first | (simp [hn]; done) | (simp [hn]; omega) | fail) fun C k hC hk => ?_; simp [c, hne, del])
  | (refine HD4_guard rfl (by simp [c, hne, del]) (fun hc => ?_) (fun hc => ?_) <;> (try simp [c, hne, del] at hc) <;> (try (exfalso; omega)) <;> (try simp [c, hne, del]))
  | (refine V_sblock ?_; simp [c, hne, del])
  | (refine CallV.fun_ (hs1) (by first | rfl | fail) (by first | assumption | (simp; done) | fail) (by first | (simp [c, hne, del]; done) | (simp [c, hne, del]; rfl) | fail) (by first | (simp; done) | fail) ?_ <;> (try simp [c, hne, del]))
  | (refine CallV.fun_ (hs2) (by first | rfl | fail) (by first | assumption | (simp; done) | fail) (by first | (simp [c, hne, del]; done) | (simp [c, hne, del]; rfl) | fail) (by first | (simp; done) | fail) ?_ <;> (try simp [c, hne, del]))
  | (refine CallP.panL (hck _) (by first | (simp [c, hne, del, getK_cons, getK, getK_append, getK_del, getK_setOb, applyW, del]; done) | fail) (by rfl) (by first | assumption | (simp; done) | fail) (by rfl) (by simp) ?_; refine ⟨_, Wk.refl _, ?_⟩; (try simp [c, hne, del, delL, del]))
  | fail)
     (refine hpan _ _ ⟨{ n := _, env := [], obs := [(m, mOb lets r g)], next := nx }, (Wk.cut rfl (by simp [hn]) (by simp [wkO, getK_cons, getK, getK_append, getK_del, Ob.under, D.under, under_rowsD, under_entD, hm, hr, hne, letsU, getK_append, getK_del, getK_cons, getK]) (by simp [wkU, keepE, getK_cons, getK, D.under, hm, hr, hne, letsU, getK_append, getK_del, getK_cons, getK]) (by simp [wkE, keepE, getK_cons, getK, hm, hr, hne, letsU, getK_append, getK_del, getK_cons, getK])), by simp [hn], ?_⟩; try simp)
     all_goals rfl
  ·rw [hx] at hs1
   have hck := fun nx' => product_ret a b 1000 nx' hab hbb (by omega)
   rw [show ∀ z, binX 4 (true || z) a b = prodX a b 1000 from fun z => rfl]
   cases hk : prodX a b 1000 with
   | ok v =>
    simp only [hk, outV] at hck ⊢
    (refine RetX.of_bodyW Tryd.func76 rfl (by simp) fun Γ hn hpan => ?_); simp only [entry, List.zipIdx_cons, List.zipIdx_nil, List.map_cons, List.map_nil, Nat.zero_add, Tryd.ntmps76]
    repeat' (first
  | (refine H_cons ?_; simp [c, hne, del])
  | (refine HD4_val rfl ?_; simp [c, hne, del])
  | (refine H_nil ?_; simp [c, hne, del])
  | (refine ⟨by omega, ?_⟩)
  | (refine V_sseq ?_; simp [c, hne, del])
  | (refine V_scond ?_; simp [c, hne, del])
  | (refine HD4_nil (hC _ (okP4_ren [m] nx (by simp <;> omega) (by simp <;> omega) (by apply Exists.intro; apply And.intro; (focus (repeat' (first | exact KF.nil | exact KL.nil | apply KF.cons | apply KL.cons 0 rfl | apply KL.cons 1 rfl | apply KL.cons 2 rfl | apply KL.cons 3 rfl | apply KL.cons 4 rfl | apply KL.cons 5 rfl | apply KL.cons 6 rfl | apply KL.cons 7 rfl | apply KL.cons 8 rfl | apply KL.cons 9 rfl))); kernel_rfl))) (hk _ ?_); clear hC hk C k; simp only [RunK])
  | (refine V_drawX rfl (by kernel_rfl) (by first | (simp [hn]; done) | (simp [hn]; omega) | fail) fun C k hC hk => ?_; simp [c, hne, del])
  | (refine HD4_guard rfl (by simp [c, hne, del]) (fun hc => ?_) (fun hc => ?_) <;> (try simp [c, hne, del] at hc) <;> (try (exfalso; omega)) <;> (try simp [c, hne, del]))
  | (refine V_sblock ?_; simp [c, hne, del])
  | (refine V_ret ?_; simp only [RunK])
  | (refine CallV.fun_ (hs1) (by first | rfl | fail) (by first | assumption | (simp; done) | fail) (by first | (simp [c, hne, del]; done) | (simp [c, hne, del]; rfl) | fail) (by first | (simp; done) | fail) ?_ <;> (try simp [c, hne, del]))
  | (refine CallP.okL (hck _) (by first | (simp [c, hne, del, getK_cons, getK, getK_append, getK_del, getK_setOb, applyW, del]; done) | fail) (by rfl) (by first | assumption | (simp; done) | fail) (by rfl) (by simp) ?_; (try simp [c, hne, del, delL, del]))
  | fail)
    (refine EndW.here ?_; (first | (refine EndOK.fin (.inr rfl) ?_) | (refine EndOK.fin (.inl rfl) ?_)); simp [resD, oneOrTup, Tryd.results76, hne, hm, hr, letsU]; refine FinOK.cut [(m, mOb lets r g)] (nx) (by simp [getK_cons, getK, getK_append, getK_del, Ob.under, D.under, under_rowsD, under_entD, hne, hm, hr, letsU] <;> omega) (by simp [D.under]) (by simp [hn]) ?_; try simp)
    all_goals rfl
   | error err =>
    simp only [hk, outV] at hck ⊢
    (refine RetX.of_bodyW Tryd.func76 rfl (by simp) fun Γ hn hpan => ?_); simp only [entry, List.zipIdx_cons, List.zipIdx_nil, List.map_cons, List.map_nil, Nat.zero_add, Tryd.ntmps76]
    repeat' (first
  | (refine H_cons ?_; simp [c, hne, del])
  | (refine HD4_val rfl ?_; simp [c, hne, del])
  | (refine H_nil ?_; simp [c, hne, del])
  | (refine ⟨by omega, ?_⟩)
  | (refine V_sseq ?_; simp [c, hne, del])
  | (refine V_scond ?_; simp [c, hne, del])
  | (refine HD4_nil (hC _ (okP4_ren [m] nx (by simp <;> omega) (by simp <;> omega) (by apply Exists.intro; apply And.intro; (focus (repeat' (first | exact KF.nil | exact KL.nil | apply KF.cons | apply KL.cons 0 rfl | apply KL.cons 1 rfl | apply KL.cons 2 rfl | apply KL.cons 3 rfl | apply KL.cons 4 rfl | apply KL.cons 5 rfl | apply KL.cons 6 rfl | apply KL.cons 7 rfl | apply KL.cons 8 rfl | apply KL.cons 9 rfl))); kernel_rfl))) (hk _ ?_); clear hC hk C k; simp only [RunK])
  | (refine V_drawX rfl (by kernel_rfl) (by first | (simp [hn]; done) | (simp [hn]; omega) | fail) fun C k hC hk => ?_; simp [c, hne, del])
  | (refine HD4_guard rfl (by simp [c, hne, del]) (fun hc => ?_) (fun hc => ?_) <;> (try simp [c, hne, del] at hc) <;> (try (exfalso; omega)) <;> (try simp [c, hne, del]))
  | (refine V_sblock ?_; simp [c, hne, del])
  | (refine CallV.fun_ (hs1) (by first | rfl | fail) (by first | assumption | (simp; done) | fail) (by first | (simp [c, hne, del]; done) | (simp [c, hne, del]; rfl) | fail) (by first | (simp; done) | fail) ?_ <;> (try simp [c, hne, del]))
  | (refine CallP.panL (hck _) (by first | (simp [c, hne, del, getK_cons, getK, getK_append, getK_del, getK_setOb, applyW, del]; done) | fail) (by rfl) (by first | assumption | (simp; done) | fail) (by rfl) (by simp) ?_; refine ⟨_, Wk.refl _, ?_⟩; (try simp [c, hne, del, delL, del]))
  | fail)
    (refine hpan _ _ ⟨{ n := _, env := [], obs := [(m, mOb lets r g)], next := nx }, (Wk.cut rfl (by simp [hn]) (by simp [wkO, getK_cons, getK, getK_append, getK_del, Ob.under, D.under, under_rowsD, under_entD, hm, hr, hne, letsU, getK_append, getK_del, getK_cons, getK]) (by simp [wkU, keepE, getK_cons, getK, D.under, hm, hr, hne, letsU, getK_append, getK_del, getK_cons, getK]) (by simp [wkE, keepE, getK_cons, getK, hm, hr, hne, letsU, getK_append, getK_del, getK_cons, getK])), by simp [hn], ?_⟩; try simp)
    all_goals rfl
 by_cases c : e.op = 5
 ·rw [c]
  by_cases hb0 : b = 0
  ·rw [show ∀ sh, binX 5 sh a b = .error 15 from fun sh => by rw [hb0]; rfl]
   simp only [outV, chF]
   (refine RetX.of_bodyW Tryd.func76 rfl (by simp) fun Γ hn hpan => ?_); simp only [entry, List.zipIdx_cons, List.zipIdx_nil, List.map_cons, List.map_nil, Nat.zero_add, Tryd.ntmps76]
   repeat' (first
  | (refine H_cons ?_; simp [c, hne, hb0])
  | (refine H_nil ?_; simp [c, hne, hb0])
  | (refine V_sseq ?_; simp [c, hne, hb0])
  | (refine V_scond ?_; simp [c, hne, hb0])
  | (refine V_sblock ?_; simp [c, hne, hb0])
  | (refine V_sregion ?_; simp [c, hne, hb0])
  | fail)
   (refine hpan _ _ ⟨{ n := _, env := [], obs := [(m, mOb lets r g)], next := nx }, (Wk.cut rfl (by simp [hn]) (by simp [wkO, getK_cons, getK, getK_append, getK_del, Ob.under, D.under, under_rowsD, under_entD, hm, hr, hne, letsU, getK_append, getK_del, getK_cons, getK]) (by simp [wkU, keepE, getK_cons, getK, D.under, hm, hr, hne, letsU, getK_append, getK_del, getK_cons, getK]) (by simp [wkE, keepE, getK_cons, getK, hm, hr, hne, letsU, getK_append, getK_del, getK_cons, getK])), by simp [hn], ?_⟩; try simp)
   all_goals rfl
  ·obtain ⟨Z, hZ⟩ : ∃ Z, floorX a b = Z := ⟨_, rfl⟩
   have hck := fun nx' => check_ret Z nx'
   have hf := floor_fun a b (by omega) hb0 (by omega)
   rw [hZ] at hf
   rw [show ∀ sh, binX 5 sh a b = keptX Z from fun sh => by rw [← hZ]; simp [binX, hb0]]
   cases hk : keptX Z with
   | ok v =>
    simp only [hk, outV] at hck ⊢
    (refine RetX.of_bodyW Tryd.func76 rfl (by simp) fun Γ hn hpan => ?_); simp only [entry, List.zipIdx_cons, List.zipIdx_nil, List.map_cons, List.map_nil, Nat.zero_add, Tryd.ntmps76]
    repeat' (first
  | (refine H_cons ?_; simp [c, hne, hb0])
  | (refine H_nil ?_; simp [c, hne, hb0])
  | (refine V_sseq ?_; simp [c, hne, hb0])
  | (refine V_scond ?_; simp [c, hne, hb0])
  | (refine V_sblock ?_; simp [c, hne, hb0])
  | (refine V_ret ?_; simp only [RunK])
  | (refine V_skip ?_; simp only [RunK])
  | (refine CallP.fun_ (hf) (by first | rfl | fail) (by first | assumption | (simp; done) | fail) (by first | (simp [c, hne, hb0]; done) | (simp [c, hne, hb0]; rfl) | fail) (by first | (simp; done) | fail) (fun d hd => ?_); subst hd; (try simp [c, hne, hb0]))
  | (refine CallP.okL (hck _) (by first | (simp [c, hne, hb0, getK_cons, getK, getK_append, getK_del, getK_setOb, applyW, del]; done) | fail) (by rfl) (by first | assumption | (simp; done) | fail) (by rfl) (by simp) ?_; (try simp [c, hne, hb0, delL, del]))
  | fail)
    (refine EndW.here ?_; (first | (refine EndOK.fin (.inr rfl) ?_) | (refine EndOK.fin (.inl rfl) ?_)); simp [resD, oneOrTup, Tryd.results76, hne, hm, hr, letsU]; refine FinOK.cut [(m, mOb lets r g)] (nx) (by simp [getK_cons, getK, getK_append, getK_del, Ob.under, D.under, under_rowsD, under_entD, hne, hm, hr, letsU] <;> omega) (by simp [D.under]) (by simp [hn]) ?_; try simp)
    all_goals rfl
   | error err =>
    simp only [hk, outV] at hck ⊢
    (refine RetX.of_bodyW Tryd.func76 rfl (by simp) fun Γ hn hpan => ?_); simp only [entry, List.zipIdx_cons, List.zipIdx_nil, List.map_cons, List.map_nil, Nat.zero_add, Tryd.ntmps76]
    repeat' (first
  | (refine H_cons ?_; simp [c, hne, hb0])
  | (refine H_nil ?_; simp [c, hne, hb0])
  | (refine V_sseq ?_; simp [c, hne, hb0])
  | (refine V_scond ?_; simp [c, hne, hb0])
  | (refine V_sblock ?_; simp [c, hne, hb0])
  | (refine V_skip ?_; simp only [RunK])
  | (refine CallP.fun_ (hf) (by first | rfl | fail) (by first | assumption | (simp; done) | fail) (by first | (simp [c, hne, hb0]; done) | (simp [c, hne, hb0]; rfl) | fail) (by first | (simp; done) | fail) (fun d hd => ?_); subst hd; (try simp [c, hne, hb0]))
  | (refine CallP.panL (hck _) (by first | (simp [c, hne, hb0, getK_cons, getK, getK_append, getK_del, getK_setOb, applyW, del]; done) | fail) (by rfl) (by first | assumption | (simp; done) | fail) (by rfl) (by simp) ?_; refine ⟨_, Wk.refl _, ?_⟩; (try simp [c, hne, hb0, delL, del]))
  | fail)
    (refine hpan _ _ ⟨{ n := _, env := [], obs := [(m, mOb lets r g)], next := nx }, (Wk.cut rfl (by simp [hn]) (by simp [wkO, getK_cons, getK, getK_append, getK_del, Ob.under, D.under, under_rowsD, under_entD, hm, hr, hne, letsU, getK_append, getK_del, getK_cons, getK]) (by simp [wkU, keepE, getK_cons, getK, D.under, hm, hr, hne, letsU, getK_append, getK_del, getK_cons, getK]) (by simp [wkE, keepE, getK_cons, getK, hm, hr, hne, letsU, getK_append, getK_del, getK_cons, getK])), by simp [hn], ?_⟩; try simp)
    all_goals rfl
 have ht := truth_fun (decide (a < b))
 by_cases c : e.op = 6
 ·rw [c, show ∀ sh, binX 6 sh a b = .ok (min a b) from fun sh => rfl]
  simp only [outV]
  (refine RetX.of_bodyW Tryd.func76 rfl (by simp) fun Γ hn hpan => ?_); simp only [entry, List.zipIdx_cons, List.zipIdx_nil, List.map_cons, List.map_nil, Nat.zero_add, Tryd.ntmps76]
  repeat' (first
  | (refine H_cons ?_; simp [c, hne])
  | (refine H_nil ?_; simp [c, hne])
  | (refine V_sseq ?_; simp [c, hne])
  | (refine V_scond ?_; simp [c, hne])
  | (refine V_sblock ?_; simp [c, hne])
  | (refine V_ret ?_; simp only [RunK])
  | fail)
  (refine EndW.here ?_; (first | (refine EndOK.fin (.inr rfl) ?_) | (refine EndOK.fin (.inl rfl) ?_)); simp [resD, oneOrTup, Tryd.results76, hne, hm, hr, letsU]; refine FinOK.cut [(m, mOb lets r g)] (nx) (by simp [getK_cons, getK, getK_append, getK_del, Ob.under, D.under, under_rowsD, under_entD, hne, hm, hr, letsU] <;> omega) (by simp [D.under]) (by simp [hn]) ?_; try simp)
  all_goals rfl
 by_cases c : e.op = 7
 ·rw [c, show ∀ sh, binX 7 sh a b = .ok (max a b) from fun sh => rfl]
  simp only [outV]
  (refine RetX.of_bodyW Tryd.func76 rfl (by simp) fun Γ hn hpan => ?_); simp only [entry, List.zipIdx_cons, List.zipIdx_nil, List.map_cons, List.map_nil, Nat.zero_add, Tryd.ntmps76]
  repeat' (first
  | (refine H_cons ?_; simp [c, hne])
  | (refine H_nil ?_; simp [c, hne])
  | (refine V_sseq ?_; simp [c, hne])
  | (refine V_scond ?_; simp [c, hne])
  | (refine V_sblock ?_; simp [c, hne])
  | (refine V_ret ?_; simp only [RunK])
  | fail)
  (refine EndW.here ?_; (first | (refine EndOK.fin (.inr rfl) ?_) | (refine EndOK.fin (.inl rfl) ?_)); simp [resD, oneOrTup, Tryd.results76, hne, hm, hr, letsU]; refine FinOK.cut [(m, mOb lets r g)] (nx) (by simp [getK_cons, getK, getK_append, getK_del, Ob.under, D.under, under_rowsD, under_entD, hne, hm, hr, letsU] <;> omega) (by simp [D.under]) (by simp [hn]) ?_; try simp)
  all_goals rfl
 by_cases c : e.op = 8
 ·rw [c, show ∀ sh, binX 8 sh a b = .ok (truthX (decide (a < b))) from fun sh => rfl]
  simp only [outV]
  (refine RetX.of_bodyW Tryd.func76 rfl (by simp) fun Γ hn hpan => ?_); simp only [entry, List.zipIdx_cons, List.zipIdx_nil, List.map_cons, List.map_nil, Nat.zero_add, Tryd.ntmps76]
  repeat' (first
  | (refine H_cons ?_; simp [c, hne])
  | (refine H_nil ?_; simp [c, hne])
  | (refine V_sseq ?_; simp [c, hne])
  | (refine V_scond ?_; simp [c, hne])
  | (refine V_sblock ?_; simp [c, hne])
  | (refine V_ret ?_; simp only [RunK])
  | (refine CallP.fun_ (ht) (by first | rfl | fail) (by first | assumption | (simp; done) | fail) (by first | (simp [c, hne]; done) | (simp [c, hne]; rfl) | fail) (by first | (simp; done) | fail) (fun d hd => ?_); subst hd; (try simp [c, hne]))
  | fail)
  (refine EndW.here ?_; (first | (refine EndOK.fin (.inr rfl) ?_) | (refine EndOK.fin (.inl rfl) ?_)); simp [resD, oneOrTup, Tryd.results76, hne, hm, hr, letsU]; refine FinOK.cut [(m, mOb lets r g)] (nx) (by simp [getK_cons, getK, getK_append, getK_del, Ob.under, D.under, under_rowsD, under_entD, hne, hm, hr, letsU] <;> omega) (by simp [D.under]) (by simp [hn]) ?_; try simp)
  all_goals rfl
 have c : e.op = 9 := by omega
 have ht := truth_fun (decide (a = b))
 rw [c, show ∀ sh, binX 9 sh a b = .ok (truthX (decide (a = b))) from fun sh => rfl]
 simp only [outV]
 (refine RetX.of_bodyW Tryd.func76 rfl (by simp) fun Γ hn hpan => ?_); simp only [entry, List.zipIdx_cons, List.zipIdx_nil, List.map_cons, List.map_nil, Nat.zero_add, Tryd.ntmps76]
 repeat' (first
  | (refine H_cons ?_; simp [c, hne])
  | (refine H_nil ?_; simp [c, hne])
  | (refine V_sseq ?_; simp [c, hne])
  | (refine V_scond ?_; simp [c, hne])
  | (refine V_sblock ?_; simp [c, hne])
  | (refine V_ret ?_; simp only [RunK])
  | (refine V_skip ?_; simp only [RunK])
  | (refine CallP.fun_ (ht) (by first | rfl | fail) (by first | assumption | (simp; done) | fail) (by first | (simp [c, hne]; done) | (simp [c, hne]; rfl) | fail) (by first | (simp; done) | fail) (fun d hd => ?_); subst hd; (try simp [c, hne]))
  | fail)
 (refine EndW.here ?_; (first | (refine EndOK.fin (.inr rfl) ?_) | (refine EndOK.fin (.inl rfl) ?_)); simp [resD, oneOrTup, Tryd.results76, hne, hm, hr, letsU]; refine FinOK.cut [(m, mOb lets r g)] (nx) (by simp [getK_cons, getK, getK_append, getK_del, Ob.under, D.under, under_rowsD, under_entD, hne, hm, hr, letsU] <;> omega) (by simp [D.under]) (by simp [hn]) ?_; try simp)
 all_goals rfl
end Go.Proofs.YtfcopibncpkdoaaDoor
namespace Go.Proofs.YtfcopibncpkdoaaDoor
open Go Go.VL
section
variable {lets : List Let} {G : List UInt8 → Option Int} {n : Nat} {e x y z : Exp} {t t1 t2 : Tab}
theorem valL_num (h : e.op = 0) : valL lets G n e t = (keptX e.n, t) := by unfold valL; rw [valT_eq, if_pos h]; rfl
theorem valL_name (h : e.op = 1) : valL lets G n e t = nmT lets G n e.s t := by unfold valL; rw [valT_eq, if_neg (by omega), if_pos h]
theorem valL_err {l : List Exp} {er : Int} (h0 : e.op ≠ 0) (h1 : e.op ≠ 1) (ha : e.args = x :: l) (hx : valL lets G n x t = (.error er, t1)) : valL lets G n e t = (.error er, t1) := by
 unfold valL at *
 rw [valT_eq, if_neg h0, if_neg h1, ha, valN]
 repeat' split
 all_goals exact TM.bind_err hx
theorem valL_and0 {l : List Exp} (h : e.op = 10) (ha : e.args = x :: l) (hx : valL lets G n x t = (.ok 0, t1)) : valL lets G n e t = (.ok 0, t1) := by
 unfold valL at *
 rw [valT_eq, if_neg (by omega), if_neg (by omega), if_pos h, ha, valN, TM.bind_ok hx, if_pos rfl]; rfl
theorem valL_andE {a er : Int} (h : e.op = 10) (ha : e.args = [x, y]) (hx : valL lets G n x t = (.ok a, t1)) (h0 : a ≠ 0) (hy : valL lets G n y t1 = (.error er, t2)) : valL lets G n e t = (.error er, t2) := by
 unfold valL at *
 rw [valT_eq, if_neg (by omega), if_neg (by omega), if_pos h, ha, valN, TM.bind_ok hx, if_neg h0, valN, valN, TM.bind_err hy]
theorem valL_and {a b : Int} (h : e.op = 10) (ha : e.args = [x, y]) (hx : valL lets G n x t = (.ok a, t1)) (h0 : a ≠ 0) (hy : valL lets G n y t1 = (.ok b, t2)) : valL lets G n e t = (.ok (truthX (decide (b ≠ 0))), t2) := by
 unfold valL at *
 rw [valT_eq, if_neg (by omega), if_neg (by omega), if_pos h, ha, valN, TM.bind_ok hx, if_neg h0, valN, valN, TM.bind_ok hy]; rfl
theorem valL_or1 {l : List Exp} {a : Int} (h : e.op = 11) (ha : e.args = x :: l) (hx : valL lets G n x t = (.ok a, t1)) (h0 : a ≠ 0) : valL lets G n e t = (.ok 1, t1) := by
 unfold valL at *
 rw [valT_eq, if_neg (by omega), if_neg (by omega), if_neg (by omega), if_pos h, ha, valN, TM.bind_ok hx, if_pos h0]; rfl
theorem valL_orE {er : Int} (h : e.op = 11) (ha : e.args = [x, y]) (hx : valL lets G n x t = (.ok 0, t1)) (hy : valL lets G n y t1 = (.error er, t2)) : valL lets G n e t = (.error er, t2) := by
 unfold valL at *
 rw [valT_eq, if_neg (by omega), if_neg (by omega), if_neg (by omega), if_pos h, ha, valN, TM.bind_ok hx, if_neg (by simp), valN, valN, TM.bind_err hy]
theorem valL_or {b : Int} (h : e.op = 11) (ha : e.args = [x, y]) (hx : valL lets G n x t = (.ok 0, t1)) (hy : valL lets G n y t1 = (.ok b, t2)) : valL lets G n e t = (.ok (truthX (decide (b ≠ 0))), t2) := by
 unfold valL at *
 rw [valT_eq, if_neg (by omega), if_neg (by omega), if_neg (by omega), if_pos h, ha, valN, TM.bind_ok hx, if_neg (by simp), valN, valN, TM.bind_ok hy]; rfl
theorem valL_not {a : Int} (h : e.op = 12) (ha : e.args = [x]) (hx : valL lets G n x t = (.ok a, t1)) : valL lets G n e t = (.ok (truthX (decide (a = 0))), t1) := by
 unfold valL at *
 rw [valT_eq, if_neg (by omega), if_neg (by omega), if_neg (by omega), if_neg (by omega), if_pos h, ha, valN, TM.bind_ok hx]; rfl
theorem valL_if1 {a : Int} (h : e.op = 13) (ha : e.args = [x, y, z]) (hx : valL lets G n x t = (.ok a, t1)) (h0 : a ≠ 0) : valL lets G n e t = valL lets G n y t1 := by
 unfold valL at *
 rw [valT_eq, if_neg (by omega), if_neg (by omega), if_neg (by omega), if_neg (by omega), if_neg (by omega), if_pos h, ha, valN, TM.bind_ok hx, if_pos h0, valN, valN]
theorem valL_if0 (h : e.op = 13) (ha : e.args = [x, y, z]) (hx : valL lets G n x t = (.ok 0, t1)) : valL lets G n e t = valL lets G n z t1 := by
 unfold valL at *
 rw [valT_eq, if_neg (by omega), if_neg (by omega), if_neg (by omega), if_neg (by omega), if_neg (by omega), if_pos h, ha, valN, TM.bind_ok hx, if_neg (by simp), valN, valN, valN]
theorem valL_binE {a er : Int} (h : 2 ≤ e.op ∧ e.op ≤ 9) (ha : e.args = [x, y]) (hx : valL lets G n x t = (.ok a, t1)) (hy : valL lets G n y t1 = (.error er, t2)) : valL lets G n e t = (.error er, t2) := by
 unfold valL at *
 rw [valT_eq, if_neg (by omega), if_neg (by omega), if_neg (by omega), if_neg (by omega), if_neg (by omega), if_neg (by omega), ha, valN, TM.bind_ok hx, valN, valN, TM.bind_err hy]
theorem valL_bin {a b : Int} (h : 2 ≤ e.op ∧ e.op ≤ 9) (ha : e.args = [x, y]) (hx : valL lets G n x t = (.ok a, t1)) (hy : valL lets G n y t1 = (.ok b, t2)) :
  valL lets G n e t = (binX e.op (shareP (lets.take n) x || shareP (lets.take n) y) a b, t2) := by
 unfold valL at *
 rw [valT_eq, if_neg (by omega), if_neg (by omega), if_neg (by omega), if_neg (by omega), if_neg (by omega), if_neg (by omega), ha, valN, TM.bind_ok hx, valN, valN, TM.bind_ok hy]
 simp [TM.ret]
end
abbrev tOb (t : Tab) : Ob := .vec 153 3 (t.map fun x => [.u (.int .i64 x.1), .u (.int .i64 x.2.1), .u (.bool x.2.2)])
abbrev eOb (e : Exp) : Ob := .box [.u (.int .i64 e.op), .u (.int .i64 e.n), .u (.int .i64 e.unit), .u (.str e.s), .u (.sl (e.args.map Exp.row))]
def ValOK (lets : List Let) (r : Nat) (g : GM) (m n : Nat) (e : Exp) : Prop := ∀ (t : Tab) (nx : Nat), m < nx → r < nx → TabOK lets.length t →
 RetX Tryd.prog 46 [.ptr m 0, eagg e, .u (.int .i64 n)] [(m, mOb lets r g), (r, tOb t)] nx
  (fun o obs n' => o = outV (valL lets (gF g) n e t).1 ∧ obs = [(m, mOb lets r g), (r, tOb (valL lets (gF g) n e t).2)] ∧ n' = nx)
attribute [local simp] HS hcons hstep evPure opd uOf putOK St.put St.at getK binD binI binS binB nilD aggD eqUs cmpK lookD lookR rangeD nextD entryD keyD valU keyU lookK mkV entD_nil lookK_entD updK_entD1 updK_entD3 allUE allUE_entD makeMapD mapUpdD mapEff updK valM Key.kk shiftI arith unD convD pickD loadD cellsAt fieldAddrD fieldD indexAddrD indexD sliceD cutD lenD minmaxD nilCheckD buildD fillD cellsD isOne ones setAll mkAgg allU allocD boxD storeD St.add buildSliceD appendD rowsOf makeD setOb getK_setOb getK_del getK_cons stripL strip guardTmp entry chunks zcells valD argsV argsW argW argU1 argU0 argsU0 argsU1 calleeOf scalarD scalarU delAll effD St.effS RK_seq RK_seq_ret RK_seq_exit RK_blk RK_blk_ret RK_blk_exit RK_loop RK_loop_ret RK_loop_exit RK_done vs_seq vs_block vs_cond vs_region vs_loop vs_draw applyW mkD rdIds lentIds callOf calleeOf freeOp D.ids Op.operands Call.operands isEffOp makeIfD typeAssertD conc concs conc1 uOfV panicD IntKind.bits allU2 allU2_append List.take_of_length_le List.range_succ
attribute [local irreducible] V G H HD HD2 HD4 HD4h RetX RunK Eff CallP CallV EndOK Fun Ret FinOK LoopI LoopW EndW
def under_tOb (N : Nat) (t : Tab) : (∀ x ∈ t, ∀ y ∈ [D.u (.int .i64 x.1), D.u (.int .i64 x.2.1), D.u (.bool x.2.2)], D.under N y = true) := by
 intro x _ y hy
 simp at hy
 rcases hy with rfl | rfl | rfl <;> simp [D.under]
theorem arg_ret {lets : List Let} {r : Nat} {g : GM} {m n : Nat} {x : Exp} (hV : ValOK lets r g m n x) (e : Exp) (ia : Nat) (hia : e.args[ia]? = some x) (hmr : m ≠ r) (N : Nat) (hm : m < N) (hr : r < N) (t : Tab) (nx : Nat) (hN : N + 3 ≤ nx) (ht : TabOK lets.length t) :
  RetX Tryd.prog 72 [.u (.int .i64 ia), .ptr N 0, .ptr (N + 1) 0, .ptr (N + 2) 0]
   [(N, .box [.ptr m 0]), (N + 1, eOb e), (N + 2, .box [.u (.int .i64 n)]), (m, mOb lets r g), (r, tOb t)] nx
   (fun o obs n' => o = outV (valL lets (gF g) n x t).1 ∧ obs = [(N, .box [.ptr m 0]), (N + 1, eOb e), (N + 2, .box [.u (.int .i64 n)]), (m, mOb lets r g), (r, tOb (valL lets (gF g) n x t).2)] ∧ n' = nx) := by
 have hne := nef hm
 have hne2 := nef hr
 have hv := fun nx' (h : N + 3 ≤ nx') => hV t nx' (by omega) (by omega) ht
 have hil := (List.getElem?_eq_some_iff.1 hia).1
 unfold eagg at hv
 rcases hvl : valL lets (gF g) n x t with ⟨er | v, t1⟩
 ·simp only [hvl, outV] at hv ⊢
  (refine RetX.of_bodyW Tryd.func72 rfl (by simp) fun Γ hn hpan => ?_); simp only [entry, List.zipIdx_cons, List.zipIdx_nil, List.map_cons, List.map_nil, Nat.zero_add, Tryd.ntmps72]
  repeat' (first
  | (refine HD4_panL (fun nx' h' => hv nx' (by simp at h'; omega)) (by first | (simp [hne, hne2, hmr, Ne.symm hmr, hia, Exp.row_eq, under_tOb, getK_cons, getK, getK_append, getK_del, getK_setOb, applyW, del]; done) | fail) (by rfl) (by first | assumption | (simp; done) | fail) (by rfl) (by simp) ?_ ?_; intro env' n' hn'; refine ⟨_, Wk.refl _, ?_⟩; (try simp [hne, hne2, hmr, Ne.symm hmr, hia, Exp.row_eq, under_tOb, delL, del]))
  | (refine HD4_val rfl ?_; simp [hne, hne2, hmr, Ne.symm hmr, hia, Exp.row_eq, under_tOb]; (fail_if_success (guard_target =ₛ False)))
  | (refine H_cons ?_; simp [hne, hne2, hmr, Ne.symm hmr, hia, Exp.row_eq, under_tOb])
  | (refine H_nil ?_; simp [hne, hne2, hmr, Ne.symm hmr, hia, Exp.row_eq, under_tOb])
  | (refine V_sseq ?_; simp [hne, hne2, hmr, Ne.symm hmr, hia, Exp.row_eq, under_tOb])
  | (refine HD4_nilS (hC _ (okP4_ren [N, N + 1, N + 2, m, r] nx (by simp <;> omega) (by simp <;> omega) (by apply Exists.intro; apply And.intro; (focus (repeat' (first | exact KF.nil | exact KL.nil | apply KF.cons | apply KL.cons 0 rfl | apply KL.cons 1 rfl | apply KL.cons 2 rfl | apply KL.cons 3 rfl | apply KL.cons 4 rfl | apply KL.cons 5 rfl | apply KL.cons 6 rfl | apply KL.cons 7 rfl | apply KL.cons 8 rfl | apply KL.cons 9 rfl))); kernel_rfl))) rfl; done)
  | (refine V_drawX rfl (by kernel_rfl) (by first | (simp [hn]; done) | (simp [hn]; omega) | fail) fun C k hC hk => ?_; simp [hne, hne2, hmr, Ne.symm hmr, hia, Exp.row_eq, under_tOb])
  | fail)
  (refine hpan _ _ ⟨{ n := _, env := [], obs := [(N, .box [.ptr m 0]), (N + 1, eOb e), (N + 2, .box [.u (.int .i64 n)]), (m, mOb lets r g), (r, tOb t1)], next := nx }, (Wk.cut rfl (by simp [hn]) (by simp [wkO, getK_cons, getK, getK_append, getK_del, Ob.under, D.under, under_rowsD, under_entD, hm, hr, hne, hne2, hmr, Ne.symm hmr, under_tOb, getK_append, getK_del, getK_cons, getK] <;> (try omega)) (by simp [wkU, keepE, getK_cons, getK, D.under, hm, hr, hne, hne2, hmr, Ne.symm hmr, under_tOb, getK_append, getK_del, getK_cons, getK] <;> (try omega)) (by simp [wkE, keepE, getK_cons, getK, hm, hr, hne, hne2, hmr, Ne.symm hmr, under_tOb, getK_append, getK_del, getK_cons, getK] <;> (try omega))), (by simp [hn] <;> (try omega)), ?_⟩; try simp)
 ·simp only [hvl, outV] at hv ⊢
  (refine RetX.of_bodyW Tryd.func72 rfl (by simp) fun Γ hn hpan => ?_); simp only [entry, List.zipIdx_cons, List.zipIdx_nil, List.map_cons, List.map_nil, Nat.zero_add, Tryd.ntmps72]
  repeat' (first
  | (refine HD4_okL (fun nx' h' => hv nx' (by simp at h'; omega)) (by first | (simp [hne, hne2, hmr, Ne.symm hmr, hia, Exp.row_eq, under_tOb, getK_cons, getK, getK_append, getK_del, getK_setOb, applyW, del]; done) | fail) rfl (by first | (simp [hne, hne2, hmr, Ne.symm hmr, hia, Exp.row_eq, under_tOb]; done) | fail) (by rfl) (by first | assumption | (simp; done) | fail) (by rfl) (by first | (simp [hne, hne2, hmr, Ne.symm hmr, hia, Exp.row_eq, under_tOb, D.under, Ob.under, under_rowsD, under_entD]; done) | (simp [hne, hne2, hmr, Ne.symm hmr, hia, Exp.row_eq, under_tOb, D.under, Ob.under, under_rowsD, under_entD]; omega) | fail) (by simp) ?_; (try simp [hne, hne2, hmr, Ne.symm hmr, hia, Exp.row_eq, under_tOb]))
  | (refine H_cons ?_; simp [hne, hne2, hmr, Ne.symm hmr, hia, Exp.row_eq, under_tOb])
  | (refine HD4_val rfl ?_; simp [hne, hne2, hmr, Ne.symm hmr, hia, Exp.row_eq, under_tOb])
  | (refine H_nil ?_; simp [hne, hne2, hmr, Ne.symm hmr, hia, Exp.row_eq, under_tOb])
  | (refine V_sseq ?_; simp [hne, hne2, hmr, Ne.symm hmr, hia, Exp.row_eq, under_tOb])
  | (refine HD4_nil (hC _ (okP4_ren [N, N + 1, N + 2, m, r] nx (by simp <;> omega) (by simp <;> omega) (by apply Exists.intro; apply And.intro; (focus (repeat' (first | exact KF.nil | exact KL.nil | apply KF.cons | apply KL.cons 0 rfl | apply KL.cons 1 rfl | apply KL.cons 2 rfl | apply KL.cons 3 rfl | apply KL.cons 4 rfl | apply KL.cons 5 rfl | apply KL.cons 6 rfl | apply KL.cons 7 rfl | apply KL.cons 8 rfl | apply KL.cons 9 rfl))); kernel_rfl))) (hk _ ?_); clear hC hk C k; simp only [RunK])
  | (refine V_drawX rfl (by kernel_rfl) (by first | (simp [hn]; done) | (simp [hn]; omega) | fail) fun C k hC hk => ?_; simp [hne, hne2, hmr, Ne.symm hmr, hia, Exp.row_eq, under_tOb])
  | (refine V_ret ?_; simp only [RunK])
  | fail)
  (refine EndW.here ?_; (first | (refine EndOK.fin (.inr rfl) ?_) | (refine EndOK.fin (.inl rfl) ?_)); simp [resD, oneOrTup, Tryd.results72, hm, hr, hne, hne2, hmr, Ne.symm hmr, under_tOb]; refine FinOK.cut [(N, .box [.ptr m 0]), (N + 1, eOb e), (N + 2, .box [.u (.int .i64 n)]), (m, mOb lets r g), (r, tOb t1)] (nx) (by simp [getK_cons, getK, getK_append, getK_del, Ob.under, D.under, under_rowsD, under_entD, hm, hr, hne, hne2, hmr, Ne.symm hmr, under_tOb] <;> omega) (by simp [D.under]) (by simp [hn]) ?_; try simp)
/-- The same, the table first. -/
theorem arg_ret1 {lets : List Let} {r : Nat} {g : GM} {m n : Nat} {x : Exp} {v : Int} {t1 : Tab} (hV : ValOK lets r g m n x) (e : Exp) (ia : Nat) (hia : e.args[ia]? = some x) (hmr : m ≠ r) (N : Nat) (hm : m < N) (hr : r < N) (t : Tab) (nx : Nat) (hN : N + 3 ≤ nx) (ht : TabOK lets.length t)
  (hv : valL lets (gF g) n x t = (.ok v, t1)) :
  RetX Tryd.prog 72 [.u (.int .i64 ia), .ptr N 0, .ptr (N + 1) 0, .ptr (N + 2) 0]
   [(r, tOb t), (N, .box [.ptr m 0]), (N + 1, eOb e), (N + 2, .box [.u (.int .i64 n)]), (m, mOb lets r g)] nx
   (fun o obs n' => o = .val (.u (.int .i64 v)) ∧ (∀ y, getK obs y = getK [(r, tOb t1), (N, .box [.ptr m 0]), (N + 1, eOb e), (N + 2, .box [.u (.int .i64 n)]), (m, mOb lets r g)] y) ∧ n' = nx) := by
 have hne2 := nef hr
 have hperm : ∀ (T : Tab) (y : Nat), getK [(N, .box [.ptr m 0]), (N + 1, eOb e), (N + 2, .box [.u (.int .i64 n)]), (m, mOb lets r g), (r, tOb T)] y = getK [(r, tOb T), (N, .box [.ptr m 0]), (N + 1, eOb e), (N + 2, .box [.u (.int .i64 n)]), (m, mOb lets r g)] y := fun T y => by
  simp only [getK_cons]
  by_cases h : y = r
  ·subst h
   rw [if_neg (by omega), if_neg (by omega), if_neg (by omega), if_neg (Ne.symm hmr)]
   simp
  ·simp [h]
 have h := arg_ret hV e ia hia hmr N hm hr t nx hN ht
 rw [hv] at h
 exact (h.congr fun y => (hperm t y).symm).mono fun o obs n' ⟨h1, h2, h3⟩ => ⟨h1, fun y => by rw [h2]; exact hperm t1 y, h3⟩
end Go.Proofs.YtfcopibncpkdoaaDoor
namespace Go.Proofs.YtfcopibncpkdoaaDoor
open Go Go.VL
def TryOK (lets : List Let) (r : Nat) (g : GM) (m n : Nat) (e : Exp) : Prop := ∀ (t : Tab) (nx : Nat), m < nx → r < nx → TabOK lets.length t →
 RetX Tryd.prog 27 [.ptr m 0, eagg e, .u (.int .i64 n)] [(m, mOb lets r g), (r, tOb t)] nx
  (fun o obs n' => o = .val (.tup [.u (.int .i64 (entX (valL lets (gF g) n e t).1).1), .u (.int .i64 (entX (valL lets (gF g) n e t).1).2.1)]) ∧ obs = [(m, mOb lets r g), (r, tOb (valL lets (gF g) n e t).2)] ∧ n' = nx)
attribute [local simp] HS hcons hstep evPure opd uOf putOK St.put St.at getK binD binI binS binB nilD aggD eqUs cmpK lookD lookR rangeD nextD entryD keyD valU keyU lookK mkV entD_nil lookK_entD updK_entD1 updK_entD3 allUE allUE_entD makeMapD mapUpdD mapEff updK valM Key.kk shiftI arith unD convD pickD loadD cellsAt fieldAddrD fieldD indexAddrD indexD sliceD cutD lenD minmaxD nilCheckD buildD fillD cellsD isOne ones setAll mkAgg allU allocD boxD storeD St.add buildSliceD appendD rowsOf makeD setOb getK_setOb getK_del getK_cons stripL strip guardTmp entry chunks zcells valD argsV argsW argW argU1 argU0 argsU0 argsU1 calleeOf scalarD scalarU delAll effD St.effS RK_seq RK_seq_ret RK_seq_exit RK_blk RK_blk_ret RK_blk_exit RK_loop RK_loop_ret RK_loop_exit RK_done vs_seq vs_block vs_cond vs_region vs_loop vs_draw applyW mkD rdIds lentIds callOf calleeOf freeOp D.ids Op.operands Call.operands isEffOp makeIfD typeAssertD conc concs conc1 uOfV panicD IntKind.bits allU2 allU2_append List.take_of_length_le List.range_succ
attribute [local irreducible] V G H HD HD2 HD4 HD4h RetX RunK Eff CallP CallV EndOK Fun Ret FinOK LoopI LoopW EndW
theorem under_tset (N : Nat) (t : Tab) (c : Nat) (a b : Int) (d : Bool) : (∀ x ∈ (t.map fun x => [D.u (.int .i64 x.1), D.u (.int .i64 x.2.1), D.u (.bool x.2.2)]).set c [D.u (.int .i64 a), D.u (.int .i64 b), D.u (.bool d)], ∀ y ∈ x, D.under N y = true) ↔ True := by
 refine ⟨fun _ => trivial, fun _ => ?_⟩
 have h : ((t.map fun x => [D.u (.int .i64 x.1), D.u (.int .i64 x.2.1), D.u (.bool x.2.2)]).set c [D.u (.int .i64 a), D.u (.int .i64 b), D.u (.bool d)]) = (t.set c (a, b, d)).map fun x => [D.u (.int .i64 x.1), D.u (.int .i64 x.2.1), D.u (.bool x.2.2)] := by rw [List.map_set]
 rw [h]
 intro x hx
 obtain ⟨q, _, rfl⟩ := List.mem_map.1 hx
 intro y hy
 simp at hy
 rcases hy with rfl | rfl | rfl <;> simp [D.under]
theorem nmT_given {lets : List Let} {g : List UInt8 → Option Int} {s : List UInt8} {v : Int} (h : g s = some v) : ∀ n, nmT lets g n s = TM.ret (.ok v)
 | 0 => by rw [nmT, h]
 | n + 1 => by rw [nmT, h]
theorem nmT_0 {lets : List Let} {g : List UInt8 → Option Int} {s : List UInt8} (h : g s = none) : nmT lets g 0 s = TM.ret (.error 13) := by rw [nmT, h]
theorem nmT_other {lets : List Let} {g : List UInt8 → Option Int} {s : List UInt8} {c : Nat} {l : Let} (h : g s = none) (hl : lets[c]? = some l) (hs : ¬ l.name = s) : nmT lets g (c + 1) s = nmT lets g c s := by
 rw [nmT, h, hl]
 simp only
 rw [if_neg hs]
theorem nmT_done {lets : List Let} {g : List UInt8 → Option Int} {s : List UInt8} {c : Nat} {l : Let} {t : Tab} {v e : Int} (h : g s = none) (hl : lets[c]? = some l) (hs : l.name = s) (ht : t[c]? = some (v, e, true)) :
  nmT lets g (c + 1) s t = (outX v e, t) := by
 rw [nmT, h, hl]
 simp only
 rw [if_pos hs]
 simp only [ht]
theorem nmT_new {lets : List Let} {g : List UInt8 → Option Int} {s : List UInt8} {c : Nat} {l : Let} {t : Tab} {v e : Int} (h : g s = none) (hl : lets[c]? = some l) (hs : l.name = s) (ht : t[c]? = some (v, e, false)) :
  nmT lets g (c + 1) s t = (outX (entX (valL lets g c l.body t).1).1 (entX (valL lets g c l.body t).1).2.1, (valL lets g c l.body t).2.set c (entX (valL lets g c l.body t).1)) := by
 rw [nmT, h, hl]
 simp only
 rw [if_pos hs]
 simp only [ht]
 rfl
theorem name_ret {lets : List Let} {r : Nat} {g : GM} {m n : Nat} (hgs : ∀ s v, gF g s = some v → inC v) (hrb : ∀ l ∈ lets, rightB 12 l.body = true) (hT : ∀ i l, i < n → lets[i]? = some l → TryOK lets r g m i l.body) (s : List UInt8) (hnl : n ≤ lets.length) (hl : lets.length ≤ 20) (hmr : m ≠ r) (t : Tab) (nx : Nat) (hm : m < nx) (hr : r < nx) (htab : TabOK lets.length t) :
  RetX Tryd.prog 74 [.ptr m 0, .u (.str s), .u (.int .i64 n)] [(m, mOb lets r g), (r, tOb t)] nx
   (fun o obs n' => o = outV (nmT lets (gF g) n s t).1 ∧ obs = [(m, mOb lets r g), (r, tOb (nmT lets (gF g) n s t).2)] ∧ n' = nx) := by
 have hne := nef hm
 have hne2 := nef hr
 have hlen := htab.len
 have hg := look_g g s
 rcases hga : asc g s with _ | v
 ·have hgz : gF g s = none := hga
  rw [hga] at hg
  simp only [Option.map_none] at hg
  generalize hR : nmT lets (gF g) n s = R
  (refine RetX.of_bodyW Tryd.func74 rfl (by simp) fun Γ hn hpan => ?_); simp only [entry, List.zipIdx_cons, List.zipIdx_nil, List.map_cons, List.map_nil, Nat.zero_add, Tryd.ntmps74]
  repeat' (first
  | (refine H_cons ?_; simp [hne, hne2, hmr, Ne.symm hmr, hg])
  | (refine H_nil ?_; simp [hne, hne2, hmr, Ne.symm hmr, hg])
  | (refine ⟨by omega, ?_⟩)
  | (refine V_sseq ?_; simp [hne, hne2, hmr, Ne.symm hmr, hg])
  | (refine V_scond ?_; simp [hne, hne2, hmr, Ne.symm hmr, hg])
  | (refine V_sblock ?_; simp [hne, hne2, hmr, Ne.symm hmr, hg])
  | (refine V_skip ?_; simp only [RunK])
  | fail)
  refine V_loopO (α := { c : Nat // c ≤ n ∧ R = nmT lets (gF g) c s }) [0, 1] (fun c => [(9, .u (.int .i64 ((c.1 : Int) - 1)))]) (fun c => [(m, mOb lets r g), (r, tOb t)]) nx (fun c => c.1) ⟨n, by omega, hR.symm⟩ ?_ ?_
  ·exact (Wk.cut rfl (by simp [hn, St.lp]) (by simp [wkO, St.lp, getK_cons, getK, Ob.under, D.under, under_rowsD, under_entD, hm, hr, hne, hne2, hmr, Ne.symm hmr, under_tOb]) (by simp [wkU, St.lp, keepE, getK_cons, getK, D.under, hm, hr, hne, hne2, hmr, Ne.symm hmr, under_tOb]) (by simp [wkE, St.lp, keepE, getK_cons, getK, hm, hr, hne, hne2, hmr, Ne.symm hmr, under_tOb] <;> (try (intros; simp_all; done)) <;> (try (intros; omega)) <;> (try grind)))
  rintro ⟨c, hc1, hc2⟩
  simp [St.lp, St.only, keepE, getK_cons, getK]
  rcases c with _ | c
  ·rw [nmT_0 hgz] at hc2
   rw [hc2] at hpan
   repeat' (first
  | (refine H_cons ?_; simp [hne, hne2, hmr, Ne.symm hmr])
  | (refine H_nil ?_; simp [hne, hne2, hmr, Ne.symm hmr])
  | (refine V_sseq ?_; simp [hne, hne2, hmr, Ne.symm hmr])
  | (refine V_scond ?_; simp [hne, hne2, hmr, Ne.symm hmr])
  | (refine V_sregion ?_; simp [hne, hne2, hmr, Ne.symm hmr])
  | (refine V_exit ?_; simp [RunK])
  | fail)
   (refine hpan _ _ ⟨{ n := _, env := [], obs := [(m, mOb lets r g), (r, tOb t)], next := nx }, (Wk.cut rfl (by simp [hn]) (by simp [wkO, getK_cons, getK, getK_append, getK_del, Ob.under, D.under, under_rowsD, under_entD, hm, hr, hne, hne2, hmr, Ne.symm hmr, under_tOb] <;> (try omega)) (by simp [wkU, keepE, getK_cons, getK, D.under, hm, hr, hne, hne2, hmr, Ne.symm hmr, under_tOb] <;> (try omega)) (by simp [wkE, keepE, getK_cons, getK, hm, hr, hne, hne2, hmr, Ne.symm hmr, under_tOb] <;> (try omega))), (by simp [hn] <;> (try omega)), ?_⟩; try simp)
   all_goals simp [TM.ret, outV, chF]
  ·obtain ⟨l, hx⟩ : ∃ l, lets[c]? = some l := ⟨_, List.getElem?_eq_getElem (by omega)⟩
   obtain ⟨⟨v0, e0, d0⟩, hy⟩ : ∃ q, t[c]? = some q := ⟨_, List.getElem?_eq_getElem (by omega)⟩
   by_cases hs : l.name = s
   ·cases d0
    ·have hc3 := congrFun hc2 t
     rw [nmT_new hgz hx hs hy] at hc3
     have hTT := fun nx' (h : nx ≤ nx') => hT c l (by omega) hx t nx' (by omega) (by omega) htab
     obtain ⟨k1, k2, k3⟩ := valL_ok hrb hgs c 12 l.body (hrb l (List.mem_of_getElem? hx)) t htab
     generalize valL lets (gF g) c l.body t = w at *
     obtain ⟨res, t1⟩ := w
     have hlen1 := k1.len
     simp only at hlen1 k2 k3 hc3 hTT
     unfold eagg at hTT
     obtain ⟨⟨v1, e1, d1⟩, hz⟩ : ∃ q, t1[c]? = some q := ⟨_, List.getElem?_eq_getElem (by omega)⟩
     have hst : ∀ x : List D, ((t1.map fun x => [D.u (.int .i64 x.1), D.u (.int .i64 x.2.1), D.u (.bool x.2.2)]).set c x)[c]? = some x := fun x => List.getElem?_set_self (by simp; omega)
     have hcl : t1.length = lets.length := hlen1
     rcases res with er | v
     ·have her := k3 er rfl
      simp only [entX, outX, if_neg her] at hc3 hTT
      rw [hc3] at hpan
      repeat' (first
  | (refine H_cons ?_; simp [hne, hne2, hmr, Ne.symm hmr, hx, hy, hz, hs, her, letsU, hst, List.set_set])
  | (refine H_nil ?_; simp [hne, hne2, hmr, Ne.symm hmr, hx, hy, hz, hs, her, letsU, hst, List.set_set])
  | (refine ⟨by omega, ?_⟩)
  | (refine V_sseq ?_; simp [hne, hne2, hmr, Ne.symm hmr, hx, hy, hz, hs, her, letsU, hst, List.set_set])
  | (refine V_scond ?_; simp [hne, hne2, hmr, Ne.symm hmr, hx, hy, hz, hs, her, letsU, hst, List.set_set])
  | (refine V_sregion ?_; simp [hne, hne2, hmr, Ne.symm hmr, hx, hy, hz, hs, her, letsU, hst, List.set_set])
  | (refine V_skip ?_; simp only [RunK])
  | (refine ⟨?_, by omega⟩)
  | (refine CallP.okL (hTT _ (by first | omega | (simp; done) | (simp; omega) | fail)) (by first | (simp [hne, hne2, hmr, Ne.symm hmr, hx, hy, hz, hs, her, letsU, hst, List.set_set, getK_cons, getK, getK_append, getK_del, getK_setOb, applyW, del]; done) | fail) (by rfl) (by first | assumption | (simp; done) | fail) (by rfl) (by simp) ?_; (try simp [hne, hne2, hmr, Ne.symm hmr, hx, hy, hz, hs, her, letsU, hst, List.set_set, delL, del]))
  | fail)
      (refine hpan _ _ ⟨{ n := _, env := [], obs := [(m, mOb lets r g), (r, tOb (t1.set c (0, er, true)))], next := nx }, (Wk.cut rfl (by simp [hn]) (by simp [wkO, getK_cons, getK, getK_append, getK_del, Ob.under, D.under, under_rowsD, under_entD, hm, hr, hne, hne2, hmr, Ne.symm hmr, under_tOb, under_tset, letsU, List.map_set] <;> (try omega)) (by simp [wkU, keepE, getK_cons, getK, D.under, hm, hr, hne, hne2, hmr, Ne.symm hmr, under_tOb, under_tset, letsU, List.map_set] <;> (try omega)) (by simp [wkE, keepE, getK_cons, getK, hm, hr, hne, hne2, hmr, Ne.symm hmr, under_tOb, under_tset, letsU, List.map_set] <;> (try omega))), (by simp [hn] <;> (try omega)), ?_⟩; try simp)
      all_goals first | rfl | simp [outX, outV, her, chF]
     ·simp only [entX, outX, if_true] at hc3 hTT
      rw [hc3]
      repeat' (first
  | (refine H_cons ?_; simp [hne, hne2, hmr, Ne.symm hmr, hx, hy, hz, hs, letsU, hst, List.set_set])
  | (refine H_nil ?_; simp [hne, hne2, hmr, Ne.symm hmr, hx, hy, hz, hs, letsU, hst, List.set_set])
  | (refine ⟨by omega, ?_⟩)
  | (refine V_sseq ?_; simp [hne, hne2, hmr, Ne.symm hmr, hx, hy, hz, hs, letsU, hst, List.set_set])
  | (refine V_scond ?_; simp [hne, hne2, hmr, Ne.symm hmr, hx, hy, hz, hs, letsU, hst, List.set_set])
  | (refine V_sregion ?_; simp [hne, hne2, hmr, Ne.symm hmr, hx, hy, hz, hs, letsU, hst, List.set_set])
  | (refine V_ret ?_; simp only [RunK])
  | (refine V_skip ?_; simp only [RunK])
  | (refine ⟨?_, by omega⟩)
  | (refine CallP.okL (hTT _ (by first | omega | (simp; done) | (simp; omega) | fail)) (by first | (simp [hne, hne2, hmr, Ne.symm hmr, hx, hy, hz, hs, letsU, hst, List.set_set, getK_cons, getK, getK_append, getK_del, getK_setOb, applyW, del]; done) | fail) (by rfl) (by first | assumption | (simp; done) | fail) (by rfl) (by simp) ?_; (try simp [hne, hne2, hmr, Ne.symm hmr, hx, hy, hz, hs, letsU, hst, List.set_set, delL, del]))
  | fail)
      (refine EndW.here ?_; (first | (refine EndOK.fin (.inr rfl) ?_) | (refine EndOK.fin (.inl rfl) ?_)); simp [resD, oneOrTup, Tryd.results74, hm, hr, hne, hne2, hmr, Ne.symm hmr, under_tOb, under_tset, letsU, List.map_set]; refine FinOK.cut [(m, mOb lets r g), (r, tOb (t1.set c (v, 0, true)))] (nx) (by simp [getK_cons, getK, getK_append, getK_del, Ob.under, D.under, under_rowsD, under_entD, hm, hr, hne, hne2, hmr, Ne.symm hmr, under_tOb, under_tset, letsU, List.map_set] <;> omega) (by simp [D.under]) (by simp [hn]) ?_; try simp)
      all_goals first | rfl | simp [outX, outV]
    ·have hc3 := congrFun hc2 t
     rw [nmT_done hgz hx hs hy] at hc3
     rw [hc3] at hpan ⊢
     by_cases he : e0 = 0
     ·repeat' (first
  | (refine H_cons ?_; simp [hne, hne2, hmr, Ne.symm hmr, hx, hy, hs, he, letsU])
  | (refine H_nil ?_; simp [hne, hne2, hmr, Ne.symm hmr, hx, hy, hs, he, letsU])
  | (refine ⟨by omega, ?_⟩)
  | (refine V_sseq ?_; simp [hne, hne2, hmr, Ne.symm hmr, hx, hy, hs, he, letsU])
  | (refine V_scond ?_; simp [hne, hne2, hmr, Ne.symm hmr, hx, hy, hs, he, letsU])
  | (refine V_ret ?_; simp only [RunK])
  | (refine V_skip ?_; simp only [RunK])
  | (refine ⟨?_, by omega⟩)
  | fail)
      (refine EndW.here ?_; (first | (refine EndOK.fin (.inr rfl) ?_) | (refine EndOK.fin (.inl rfl) ?_)); simp [resD, oneOrTup, Tryd.results74, hm, hr, hne, hne2, hmr, Ne.symm hmr, under_tOb, letsU]; refine FinOK.cut [(m, mOb lets r g), (r, tOb t)] (nx) (by simp [getK_cons, getK, getK_append, getK_del, Ob.under, D.under, under_rowsD, under_entD, hm, hr, hne, hne2, hmr, Ne.symm hmr, under_tOb, letsU] <;> omega) (by simp [D.under]) (by simp [hn]) ?_; try simp)
      all_goals first | rfl | simp [outX, outV, he]
     ·repeat' (first
  | (refine H_cons ?_; simp [hne, hne2, hmr, Ne.symm hmr, hx, hy, hs, he, letsU])
  | (refine H_nil ?_; simp [hne, hne2, hmr, Ne.symm hmr, hx, hy, hs, he, letsU])
  | (refine ⟨by omega, ?_⟩)
  | (refine V_sseq ?_; simp [hne, hne2, hmr, Ne.symm hmr, hx, hy, hs, he, letsU])
  | (refine V_scond ?_; simp [hne, hne2, hmr, Ne.symm hmr, hx, hy, hs, he, letsU])
  | (refine V_sregion ?_; simp [hne, hne2, hmr, Ne.symm hmr, hx, hy, hs, he, letsU])
  | (refine V_skip ?_; simp only [RunK])
  | (refine ⟨?_, by omega⟩)
  | fail)
      (refine hpan _ _ ⟨{ n := _, env := [], obs := [(m, mOb lets r g), (r, tOb t)], next := nx }, (Wk.cut rfl (by simp [hn]) (by simp [wkO, getK_cons, getK, getK_append, getK_del, Ob.under, D.under, under_rowsD, under_entD, hm, hr, hne, hne2, hmr, Ne.symm hmr, under_tOb, letsU] <;> (try omega)) (by simp [wkU, keepE, getK_cons, getK, D.under, hm, hr, hne, hne2, hmr, Ne.symm hmr, under_tOb, letsU] <;> (try omega)) (by simp [wkE, keepE, getK_cons, getK, hm, hr, hne, hne2, hmr, Ne.symm hmr, under_tOb, letsU] <;> (try omega))), (by simp [hn] <;> (try omega)), ?_⟩; try simp)
      all_goals first | rfl | simp [outX, outV, he, chF]
   ·rw [nmT_other hgz hx hs] at hc2
    repeat' (first
  | (refine H_cons ?_; simp [hne, hne2, hmr, Ne.symm hmr, hx, hs, letsU])
  | (refine H_nil ?_; simp [hne, hne2, hmr, Ne.symm hmr, hx, hs, letsU])
  | (refine ⟨by omega, ?_⟩)
  | (refine V_sseq ?_; simp [hne, hne2, hmr, Ne.symm hmr, hx, hs, letsU])
  | (refine V_scond ?_; simp [hne, hne2, hmr, Ne.symm hmr, hx, hs, letsU])
  | (refine V_sregion ?_; simp [hne, hne2, hmr, Ne.symm hmr, hx, hs, letsU])
  | (refine V_skip ?_; simp only [RunK])
  | (refine V_exit ?_; simp [RunK])
  | fail)
    refine LoopW.next ⟨c, by omega, hc2⟩ (by simp) ?_
    exact (Wk.cut rfl (by simp [hn, St.lp]) (by simp [wkO, St.lp, getK_cons, getK, Ob.under, D.under, under_rowsD, under_entD, hm, hr, hne, hne2, hmr, Ne.symm hmr, under_tOb, letsU]) (by simp [wkU, St.lp, keepE, getK_cons, getK, D.under, hm, hr, hne, hne2, hmr, Ne.symm hmr, under_tOb, letsU]) (by simp [wkE, St.lp, keepE, getK_cons, getK, hm, hr, hne, hne2, hmr, Ne.symm hmr, under_tOb, letsU] <;> (try (intros; simp_all; done)) <;> (try (intros; omega)) <;> (try grind)))
 ·rw [hga] at hg
  simp only [Option.map_some] at hg
  rw [nmT_given (by exact hga) n]
  simp only [TM.ret, outV]
  (refine RetX.of_bodyW Tryd.func74 rfl (by simp) fun Γ hn hpan => ?_); simp only [entry, List.zipIdx_cons, List.zipIdx_nil, List.map_cons, List.map_nil, Nat.zero_add, Tryd.ntmps74]
  repeat' (first
  | (refine H_cons ?_; simp [hne, hne2, hmr, Ne.symm hmr, hg])
  | (refine H_nil ?_; simp [hne, hne2, hmr, Ne.symm hmr, hg])
  | (refine V_sseq ?_; simp [hne, hne2, hmr, Ne.symm hmr, hg])
  | (refine V_scond ?_; simp [hne, hne2, hmr, Ne.symm hmr, hg])
  | (refine V_ret ?_; simp only [RunK])
  | fail)
  (refine EndW.here ?_; (first | (refine EndOK.fin (.inr rfl) ?_) | (refine EndOK.fin (.inl rfl) ?_)); simp [resD, oneOrTup, Tryd.results74, hm, hr, hne, hne2, hmr, Ne.symm hmr, under_tOb]; refine FinOK.cut [(m, mOb lets r g), (r, tOb t)] (nx) (by simp [getK_cons, getK, getK_append, getK_del, Ob.under, D.under, under_rowsD, under_entD, hm, hr, hne, hne2, hmr, Ne.symm hmr, under_tOb] <;> omega) (by simp [D.under]) (by simp [hn]) ?_; try simp)
theorem tdef_ret (i j nx : Nat) (hi : i < nx) (hj : j < nx) (hij : i ≠ j) (v e : Int) :
  RetDf Tryd.prog 45 [.ptr i 0, .ptr j 0] [(i, .box [.u (.int .i64 v)]), (j, .box [.u (.int .i64 e)])] nx .returning
   (fun u o n => settle u = .returning ∧ n = nx ∧ o = [(i, .box [.u (.int .i64 v)]), (j, .box [.u (.int .i64 e)])]) := by
 have hne := nef hi
 have hne2 := nef hj
 refine RetDf.of_body Tryd.func45 rfl (by simp) (by simp) rfl fun Γ hn => ?_
 simp [entry, recU, Tryd.ntmps45]
 repeat' (first
  | (refine H_cons ?_; simp [hne, hne2, hij, Ne.symm hij])
  | (refine H_nil ?_; simp [hne, hne2, hij, Ne.symm hij])
  | (refine V_sseq ?_; simp [hne, hne2, hij, Ne.symm hij])
  | (refine V_scond ?_; simp [hne, hne2, hij, Ne.symm hij])
  | (refine V_skip ?_; simp only [RunK])
  | fail)
 (refine ⟨by simp, { n := _, env := [], obs := [(i, .box [.u (.int .i64 v)]), (j, .box [.u (.int .i64 e)])], next := nx }, (Wk.cut rfl (by simp [hn]) (by simp [wkO, getK_cons, getK, getK_append, getK_del, Ob.under, D.under, under_rowsD, under_entD, hi, hj, hne, hne2, hij, Ne.symm hij]) (by simp [wkU, keepE, getK_cons, getK, D.under, hi, hj, hne, hne2, hij, Ne.symm hij]) (by simp [wkE, keepE, getK_cons, getK, hi, hj, hne, hne2, hij, Ne.symm hij])), by simp [hn], ?_⟩; try simp)
 all_goals rfl
theorem tdef_pan (i j nx : Nat) (hi : i < nx) (hj : j < nx) (hij : i ≠ j) (v e err : Int) :
  RetDf Tryd.prog 45 [.ptr i 0, .ptr j 0] [(i, .box [.u (.int .i64 v)]), (j, .box [.u (.int .i64 e)])] nx (.panicking (chF err))
   (fun u o n => settle u = .returning ∧ n = nx ∧ o = [(i, .box [.u (.int .i64 0)]), (j, .box [.u (.int .i64 err)])]) := by
 have hne := nef hi
 have hne2 := nef hj
 refine RetDf.of_body Tryd.func45 rfl (by simp) (by simp) rfl fun Γ hn => ?_
 simp [entry, recU, chF, Tryd.ntmps45]
 repeat' (first
  | (refine H_cons ?_; simp [hne, hne2, hij, Ne.symm hij])
  | (refine HD4_val rfl ?_; simp [hne, hne2, hij, Ne.symm hij])
  | (refine HD4_chg rfl ?_; simp [hne, hne2, hij, Ne.symm hij])
  | (refine H_nil ?_; simp [hne, hne2, hij, Ne.symm hij])
  | (refine V_sseq ?_; simp [hne, hne2, hij, Ne.symm hij])
  | (refine V_scond ?_; simp [hne, hne2, hij, Ne.symm hij])
  | (refine HD4_nil (hC _ (okP4_ren [i, j] nx (by simp <;> omega) (by simp <;> omega) (by apply Exists.intro; apply And.intro; (focus (repeat' (first | exact KF.nil | exact KL.nil | apply KF.cons | apply KL.cons 0 rfl | apply KL.cons 1 rfl | apply KL.cons 2 rfl | apply KL.cons 3 rfl | apply KL.cons 4 rfl | apply KL.cons 5 rfl | apply KL.cons 6 rfl | apply KL.cons 7 rfl | apply KL.cons 8 rfl | apply KL.cons 9 rfl))); kernel_rfl))) (hk _ ?_); clear hC hk C k; simp only [RunK])
  | (refine V_drawX rfl (by kernel_rfl) (by first | (simp [hn]; done) | (simp [hn]; omega) | fail) fun C k hC hk => ?_; simp [hne, hne2, hij, Ne.symm hij])
  | (refine V_skip ?_; simp only [RunK])
  | fail)
 (refine ⟨by simp, { n := _, env := [], obs := [(i, .box [.u (.int .i64 0)]), (j, .box [.u (.int .i64 err)])], next := nx }, (Wk.cut rfl (by simp [hn]) (by simp [wkO, getK_cons, getK, getK_append, getK_del, Ob.under, D.under, under_rowsD, under_entD, hi, hj, hne, hne2, hij, Ne.symm hij]) (by simp [wkU, keepE, getK_cons, getK, D.under, hi, hj, hne, hne2, hij, Ne.symm hij]) (by simp [wkE, keepE, getK_cons, getK, hi, hj, hne, hne2, hij, Ne.symm hij])), by simp [hn], ?_⟩; try simp)
 all_goals rfl
theorem try_ret {lets : List Let} {r : Nat} {g : GM} {m n : Nat} {e : Exp} (hV : ValOK lets r g m n e) (hmr : m ≠ r) : TryOK lets r g m n e := by
 intro t nx hm hr ht
 have hne := nef hm
 have hne2 := nef hr
 have hv := fun nx' (h : nx ≤ nx') => hV t nx' (by omega) (by omega) ht
 unfold eagg at hv ⊢
 rcases hvl : valL lets (gF g) n e t with ⟨er | v, t1⟩
 ·simp only [hvl, outV, entX] at hv ⊢
  (refine RetX.of_bodyD Tryd.func27 rfl (by simp) fun Γ hn hdfr hpan hesc => ?_); simp only [entry, List.zipIdx_cons, List.zipIdx_nil, List.map_cons, List.map_nil, Nat.zero_add, Tryd.ntmps27]
  rw [hold_defer]
  repeat' (first
  | (refine H_cons ?_; simp [hne, hne2, hmr, Ne.symm hmr, Nat.add_assoc, del])
  | (refine H_nil ?_; simp [hne, hne2, hmr, Ne.symm hmr, Nat.add_assoc, del])
  | (refine V_sseq ?_; simp [hne, hne2, hmr, Ne.symm hmr, Nat.add_assoc, del])
  | fail)
  refine V_defer hesc hdfr rfl (by simp) ?_
  have hn0 := hn
  have hpan0 := hpan
  intro Γ' hn hpan
  simp
  repeat' (first
  | (refine H_cons ?_; simp [hne, hne2, hmr, Ne.symm hmr, Nat.add_assoc, del])
  | (refine V_sseq ?_; simp [hne, hne2, hmr, Ne.symm hmr, Nat.add_assoc, del])
  | (refine CallP.panL (hv _ (by first | omega | (simp; done) | (simp; omega) | fail)) (by first | (simp [hne, hne2, hmr, Ne.symm hmr, Nat.add_assoc, del, getK_cons, getK, getK_append, getK_del, getK_setOb, applyW, del]; done) | fail) (by rfl) (by first | assumption | (simp; done) | fail) (by rfl) (by simp) ?_; refine ⟨_, Wk.refl _, ?_⟩; (try simp [hne, hne2, hmr, Ne.symm hmr, Nat.add_assoc, del, delL, del]))
  | fail)
  refine hpan _ _ ?_
  refine LeaveD.of [(nx + 1, .box [.u (.int .i64 0)]), (nx + 2, .box [.u (.int .i64 0)])] (by simp [hne, hne2, getK_cons, getK, getK_append, getK_del]) (tdef_pan (nx + 1) (nx + 2) _ (by simp) (by simp) (by simp) 0 0 _) ?_
  simp only [show Γ.base.n0 = nx from hn0]
  simp [delL, del, hne, hne2, hmr, Ne.symm hmr]
  (refine EndW.here ?_; (first | (refine EndOK.fin (.inr rfl) ?_) | (refine EndOK.fin (.inl rfl) ?_)); simp [resD, oneOrTup, Tryd.results27, hm, hr, hne, hne2, hmr, Ne.symm hmr, under_tOb, letsU, Ctx.base, hn0]; refine FinOK.cut [(m, mOb lets r g), (r, tOb t1)] (nx) (by simp [getK_cons, getK, getK_append, getK_del, Ob.under, D.under, under_rowsD, under_entD, hm, hr, hne, hne2, hmr, Ne.symm hmr, under_tOb, letsU, Ctx.base, hn0] <;> omega) (by simp [D.under]) (by simp [hn]) ?_; try simp)
 ·simp only [hvl, outV, entX] at hv ⊢
  (refine RetX.of_bodyD Tryd.func27 rfl (by simp) fun Γ hn hdfr hpan hesc => ?_); simp only [entry, List.zipIdx_cons, List.zipIdx_nil, List.map_cons, List.map_nil, Nat.zero_add, Tryd.ntmps27]
  rw [hold_defer]
  repeat' (first
  | (refine H_cons ?_; simp [hne, hne2, hmr, Ne.symm hmr, Nat.add_assoc, del])
  | (refine H_nil ?_; simp [hne, hne2, hmr, Ne.symm hmr, Nat.add_assoc, del])
  | (refine V_sseq ?_; simp [hne, hne2, hmr, Ne.symm hmr, Nat.add_assoc, del])
  | fail)
  refine V_defer hesc hdfr rfl (by simp) ?_
  have hn0 := hn
  have hpan0 := hpan
  intro Γ' hn hpan
  simp
  repeat' (first
  | (refine H_cons ?_; simp [hne, hne2, hmr, Ne.symm hmr, Nat.add_assoc, del])
  | (refine H_nil ?_; simp [hne, hne2, hmr, Ne.symm hmr, Nat.add_assoc, del])
  | (refine V_sseq ?_; simp [hne, hne2, hmr, Ne.symm hmr, Nat.add_assoc, del])
  | (refine V_ret ?_; simp only [RunK])
  | (refine CallP.okL (hv _ (by first | omega | (simp; done) | (simp; omega) | fail)) (by first | (simp [hne, hne2, hmr, Ne.symm hmr, Nat.add_assoc, del, getK_cons, getK, getK_append, getK_del, getK_setOb, applyW, del]; done) | fail) (by rfl) (by first | assumption | (simp; done) | fail) (by rfl) (by simp) ?_; (try simp [hne, hne2, hmr, Ne.symm hmr, Nat.add_assoc, del, delL, del]))
  | fail)
  refine ⟨rfl, ?_⟩
  refine LeaveD.of [(nx + 1, .box [.u (.int .i64 v)]), (nx + 2, .box [.u (.int .i64 0)])] (by simp [hne, hne2, getK_cons, getK, getK_append, getK_del]) (tdef_ret (nx + 1) (nx + 2) _ (by simp) (by simp) (by simp) v 0) ?_
  simp only [show Γ.base.n0 = nx from hn0]
  simp [delL, del, hne, hne2, hmr, Ne.symm hmr]
  (refine EndW.here ?_; (first | (refine EndOK.fin (.inr rfl) ?_) | (refine EndOK.fin (.inl rfl) ?_)); simp [resD, oneOrTup, Tryd.results27, hm, hr, hne, hne2, hmr, Ne.symm hmr, under_tOb, letsU, Ctx.base, hn0]; refine FinOK.cut [(m, mOb lets r g), (r, tOb t1)] (nx) (by simp [getK_cons, getK, getK_append, getK_del, Ob.under, D.under, under_rowsD, under_entD, hm, hr, hne, hne2, hmr, Ne.symm hmr, under_tOb, letsU, Ctx.base, hn0] <;> omega) (by simp [D.under]) (by simp [hn]) ?_; try simp)
end Go.Proofs.YtfcopibncpkdoaaDoor
