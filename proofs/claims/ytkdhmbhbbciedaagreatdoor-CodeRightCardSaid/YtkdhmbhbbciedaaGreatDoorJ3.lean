/- Texts joined by a program of mine: VLW VLX VLY VLQ VLZ VLA Ty VLO VL5 Pm Pn Sh VLF VLG VLH. -/
import Derived.Test.YtkdhmbhbbciedaaGreatDoorJ2
import Derived.Recover
import Derived.LaidMore
import Derived.LaidLaws
import Derived.LaidHandle
import Derived.MakeChecks
import Derived.Stop.Joined
import Derived.OpenShut
import Derived.Test.YtkdhmbhbbciedaaGreatDoorRows
import Derived.Laws.Bits64
import Derived.IntWalk
import Derived.Shelf.Strings.Builder1
import Derived.Shelf.Strings.BuilderF
import Derived.Shelf.Strings.BuilderK
import Derived.Shelf.Strconv.Atoi
import Derived.Shelf.Strconv.Itoa0
import Derived.Shelf.Strconv.Itoa1
import Derived.Shelf.LaysM
import Derived.Shelf.Strconv.Itoa2
import Derived.Shelf.Strconv.Itoa3
import Derived.Shelf.Strconv.AtoiErrFast
import Derived.Shelf.Strconv.ParseIntEmpty
import Derived.Shelf.Strconv.AtoiFail
import Derived.Shelf.Strconv.Clone
import Derived.Shelf.Strconv.SyntaxError
import Derived.Shelf.LaysC
import Derived.Shelf.Strconv.ToError
import Derived.Shelf.Strconv.AtoiErr
import Derived.Shelf.Strconv.ErrVar
import Derived.Shelf.Strconv.Lower
import Derived.Shelf.Strconv.ParseUint10
import Derived.Shelf.Strconv.ParseUint10Empty
import Derived.Shelf.Strconv.ParseUint10Any
import Derived.Shelf.Strconv.ParseInt10
import Derived.Shelf.Strconv.AtoiLong
import Derived.Shelf.Strconv.AtoiInnerAll
import Derived.Shelf.Strconv.RangeError
import Derived.Shelf.Strconv.ToErrorRange
import Derived.Shelf.Strconv.AtoiAll
import Derived.Shelf.Strconv.ErrVarAll
import Derived.Shelf.Strings.Search1
import Derived.Shelf.Strings.Search2
import Derived.Shelf.Strings.Search3
import Derived.Shelf.Strings.Cut
import Derived.Shelf.Strings.Shaped
import Derived.Shelf.Strings.Prefix
import Derived.Shelf.Bits.Mul64
import Derived.Shelf.Unicode.DecodeSlow
import Derived.Shelf.Slices.Turned
import Derived.Test.YtkdhmbhbbciedaaGreatDoorProg
import Derived.Lib.AppendStr
set_option linter.all false
set_option maxRecDepth 100000
set_option maxHeartbeats 8000000
namespace Go.VL
open Go
/-- How a call ends: a value, or a panic. -/
inductive Out where
 | val (d : D)
 | pan (ch : List PanicEntry)
def OutRep (k : Kr) (e : Ending) : Out → Prop
 | .val d => ∃ v, e = .returned v ∧ Rep k d v
 | .pan ch => e = .panicked ch
/-- What a call gives back, or how it panics. -/
def RetX (P : Program) (f : FuncId) (ds : List D) (obs : List (Nat × Ob)) (nx : Nat) (post : Out → List (Nat × Ob) → Nat → Prop) : Prop :=
 ∀ (k : Kr) (own : Nat → Prop) (w : World) (vs : Array Value), Sat k own obs w → (∀ i, nx ≤ i → k.hdr i = none) → (∀ b, w.heap.size ≤ b → own b) → RepL k ds vs →
  Calls P f vs w fun e w' => ∃ r obs' nx' k', OutRep k' e r ∧ In (.of own k nx w) k' w' ∧ Sat k' own obs' w' ∧ (∀ i, nx' ≤ i → k'.hdr i = none) ∧ nx ≤ nx' ∧ post r obs' nx'
theorem Ret.x {P f ds obs nx post} (h : Ret P f ds obs nx post) : RetX P f ds obs nx fun r o n => match r with | .val d => post d o n | .pan _ => False :=
 fun k own w vs h1 h2 h3 h4 => (h k own w vs h1 h2 h3 h4).mono fun _ _ ⟨v, d, o, n, k', e, a, b, c, g, r, hp⟩ => ⟨.val d, o, n, k', ⟨v, e, r⟩, a, b, c, g, hp⟩
theorem RetX.mono {P f ds obs nx} {p q : Out → List (Nat × Ob) → Nat → Prop} (h : RetX P f ds obs nx p) (hq : ∀ r o n, p r o n → q r o n) : RetX P f ds obs nx q :=
 fun k own w vs h1 h2 h3 h4 => (h k own w vs h1 h2 h3 h4).mono fun _ _ ⟨r, o, n, k', e, a, b, c, g, hp⟩ => ⟨r, o, n, k', e, a, b, c, g, hq _ _ _ hp⟩
theorem RetX.ret {P f ds obs nx} {p : Out → List (Nat × Ob) → Nat → Prop} {q : D → List (Nat × Ob) → Nat → Prop} (h : RetX P f ds obs nx p) (hv : ∀ d o n, p (.val d) o n → q d o n) (hx : ∀ ch o n, ¬ p (.pan ch) o n) : Ret P f ds obs nx q :=
 fun k own w vs h1 h2 h3 h4 => (h k own w vs h1 h2 h3 h4).mono fun _ _ ⟨r, o, n, k', e, a, b, c, g, hp⟩ => by
  cases r with
  | val d =>
   obtain ⟨v, e, hr⟩ := e
   exact ⟨v, d, o, n, k', e, a, b, c, g, hr, hv d o n hp⟩
  | pan ch => exact absurd hp (hx ch o n)
theorem RetX.congr {P f ds obs obs' nx post} (h : RetX P f ds obs nx post) (e : ∀ i, getK obs' i = getK obs i) : RetX P f ds obs' nx post :=
 fun k own w vs hsat hhdr hfresh hrep => h k own w vs (Sat.congr hsat fun i => (e i).symm) hhdr hfresh hrep
/-- What a call does not know of stays az it is: the memory behind it. -/
theorem frame_sat {k k' : Kr} {own : Nat → Prop} {obs F o1 : List (Nat × Ob)} {nx : Nat} {w w' : World} (hsat : Sat k own (F ++ obs) w)
  (hin : In (.of (fun b => own b ∧ ¬ Blk k F b) k nx w) k' w') (hs1 : Sat k' (fun b => own b ∧ ¬ Blk k F b) o1 w') : Sat k' own (F ++ o1) w' := by
 have hfo : ∀ i ob, getK F i = some ob → getK (F ++ obs) i = some ob := fun i ob hi => by rw [getK_append, hi]
 have hFat : ∀ i ob, getK F i = some ob → ∃ g, k.hdr i = some g ∧ k'.hdr i = some g ∧ (∀ b, g.1 = some b → own b ∧ (∀ o, k'.mem b o = none) ∧ Blk k F b) ∧ ObAt k' w' g ob := fun i ob hi => by
  obtain ⟨g, h1, h2, h3⟩ := hsat.ob i ob (hfo i ob hi)
  have hB : ∀ b, g.1 = some b → Blk k F b := fun b hb => ⟨i, ob, g, hi, h1, hb⟩
  refine ⟨g, h1, hin.le.hdr i g h1, fun b hb => ⟨(h2 b hb).1, fun o => ?_, hB b hb⟩, h3.keep hin.le fun b hb => hin.block b fun hb' => hb'.2 (hB b hb)⟩
  cases hm : k'.mem b o with
  | none => rfl
  | some x =>
   rcases hin.memNew b o x hm with h4 | h4
   ·have h4' : k.mem b o = some x := h4
    rw [(h2 b hb).2 o] at h4'; cases h4'
   ·exact absurd (hB b hb) h4.2
 refine ⟨hs1.mem, fun i ob hi => ?_, fun i j x y g g' b hx hy hij hg hg' hb => ?_⟩
 ·rw [getK_append] at hi
  cases hf : getK F i with
  | some x =>
   rw [hf] at hi
   cases hi
   obtain ⟨g, _, h2, h3, h4⟩ := hFat i _ hf
   exact ⟨g, h2, fun b hb => ⟨(h3 b hb).1, (h3 b hb).2.1⟩, h4⟩
  | none =>
   rw [hf] at hi
   obtain ⟨g, h1, h2, h3⟩ := hs1.ob i ob hi
   exact ⟨g, h1, fun b hb => ⟨(h2 b hb).1.1, (h2 b hb).2⟩, h3⟩
 ·rw [getK_append] at hx hy
  cases hfx : getK F i with
  | some x' =>
   obtain ⟨g1, k1, k2, k3, _⟩ := hFat i _ hfx
   rw [hg] at k2
   cases k2
   cases hfy : getK F j with
   | some y' =>
    obtain ⟨g2, l1, l2, l3, _⟩ := hFat j _ hfy
    rw [hg'] at l2
    cases l2
    exact hsat.apart i j x' y' g g' b (hfo i _ hfx) (hfo j _ hfy) hij k1 l1 hb
   | none =>
    rw [hfy] at hy
    obtain ⟨g2, l1, l2, _⟩ := hs1.ob j y hy
    rw [hg'] at l1
    cases l1
    exact fun e => (l2 b e).1.2 (k3 b hb).2.2
  | none =>
   rw [hfx] at hx
   cases hfy : getK F j with
   | some y' =>
    obtain ⟨g2, l1, l2, l3, _⟩ := hFat j _ hfy
    rw [hg'] at l2
    cases l2
    obtain ⟨g1, k1, k2, _⟩ := hs1.ob i x hx
    rw [hg] at k1
    cases k1
    exact fun e => (k2 b hb).1.2 (l3 b e).2.2
   | none =>
    rw [hfy] at hy
    exact hs1.apart i j x y g g' b hx hy hij hg hg' hb
theorem frame_sat0 {k : Kr} {own : Nat → Prop} {obs F : List (Nat × Ob)} {w : World} (hF : ∀ i ob, getK F i = some ob → getK obs i = none) (hsat : Sat k own (F ++ obs) w) : Sat k (fun b => own b ∧ ¬ Blk k F b) obs w := by
 have hob : ∀ i ob, getK obs i = some ob → getK F i = none ∧ getK (F ++ obs) i = some ob := fun i ob hi => by
  have hn : getK F i = none := by
   cases hf : getK F i with
   | none => rfl
   | some x => rw [hF i x hf] at hi; cases hi
  exact ⟨hn, by rw [getK_append, hn]; exact hi⟩
 have hfo : ∀ i ob, getK F i = some ob → getK (F ++ obs) i = some ob := fun i ob hi => by rw [getK_append, hi]
 refine ⟨hsat.mem, fun i ob hi => ?_, fun i j x y g g' b hx hy hij => ?_⟩
 ·obtain ⟨hn, hi'⟩ := hob i ob hi
  obtain ⟨g, h1, h2, h3⟩ := hsat.ob i ob hi'
  refine ⟨g, h1, fun b hb => ⟨⟨(h2 b hb).1, ?_⟩, (h2 b hb).2⟩, h3⟩
  rintro ⟨j, oj, g', h4, h5, h6⟩
  exact hsat.apart i j ob oj g g' b hi' (hfo j oj h4) (fun e => by subst e; rw [hn] at h4; cases h4) h1 h5 hb h6
 ·exact hsat.apart i j x y g g' b (hob i x hx).2 (hob j y hy).2 hij
theorem frame_fresh {k : Kr} {own : Nat → Prop} {obs F : List (Nat × Ob)} {w : World} (hsat : Sat k own (F ++ obs) w) (hfresh : ∀ b, w.heap.size ≤ b → own b) : ∀ b, w.heap.size ≤ b → own b ∧ ¬ Blk k F b := fun b hb => by
 refine ⟨hfresh b hb, fun hB => ?_⟩
 obtain ⟨i, ob, g, h1, h2, h3⟩ := hB
 exact absurd (hsat.lt ⟨i, ob, g, by rw [getK_append, h1], h2, h3⟩) (by omega)
theorem frame_in {k k' : Kr} {own : Nat → Prop} {F : List (Nat × Ob)} {nx : Nat} {w w' : World} (hfresh : ∀ b, w.heap.size ≤ b → own b) (hin : In (.of (fun b => own b ∧ ¬ Blk k F b) k nx w) k' w') : In (.of own k nx w) k' w' :=
 ⟨hin.le, hin.none0, fun b o x hx => (hin.memNew b o x hx).imp id (·.1), hfresh, hin.os, hin.tape, hin.output, hin.size, fun b hb => hin.block b fun hb' => hb hb'.1⟩
theorem RetX.frame {P f ds obs nx post} (F : List (Nat × Ob)) (hF : ∀ i ob, getK F i = some ob → getK obs i = none) (h : RetX P f ds obs nx post) :
  RetX P f ds (F ++ obs) nx (fun r o n => ∃ o1, o = F ++ o1 ∧ post r o1 n) := by
 intro k own w vs hsat hhdr hfresh hrep
 refine (h k _ w vs (frame_sat0 hF hsat) hhdr (frame_fresh hsat hfresh) hrep).mono ?_
 rintro e w' ⟨r, o1, n', k', he, hin, hs1, hh1, hle, hp⟩
 exact ⟨r, F ++ o1, n', k', he, frame_in hfresh hin, frame_sat hsat hin hs1, hh1, hle, o1, rfl, hp⟩
/-- A call that may panic, by what it does to the objects. -/
theorem EffP.callX {P Γ s k} {fop : Operand} {args : Array Operand} {ts : Array TypeId} {ty : TypeId} {f caps dst pos after} {ds : List D} {post : Out → List (Nat × Ob) → Nat → Prop}
  (hf : calleeOf (opd s fop) = some (f, caps)) (hc : callable P f = true) (hds : args.toList.map (opd s) ++ caps = ds) (hret : RetX P f ds s.obs s.next post) (hp : putOK dst s)
  (hk : ∀ d obs' nx', s.next ≤ nx' → post (.val d) obs' nx' → k (({ s with obs := obs', next := nx' } : St).put dst d))
  (hx : ∀ ch obs' nx', s.next ≤ nx' → post (.pan ch) obs' nx' → ∃ s2, Wk Γ { s with obs := obs', next := nx' } s2 ∧ Γ.pan ch s2) :
  EffP P Γ { dst, op := .call { callee := .value fop, args, argTypes := ts }, type := ty, pos, after, guard := none } s k := by
 intro K a w hin hs Kont Q hK hP
 obtain ⟨vs, hrep, hrun⟩ := call_run hs (args := args) (ts := ts) (ty := ty) hf hc dst pos after none
 rw [hds] at hrep
 unfold Oper.wp
 rw [hrun]
 refine Calls.mono (hret K Γ.own w vs hs.sat hs.hdr (fun b hb => hin.own_of_ge hb) hrep) ?_
 rintro e w' ⟨r, obs', nx', k', hr, hin', hsat', hhdr', hnx, hpost⟩
 have hle : K.le k' := hin'.le
 have hin2 : In Γ k' w' := hin.step hle (fun b o v e => hin'.memNew b o v e) hin'.os hin'.tape hin'.output hin'.size hin'.block
 have hsim : Sim k' Γ.own ({ s with obs := obs', next := nx' } : St) a w' := ⟨hsat', hs.defers, hs.size, fun x d hx => ⟨(hs.env x d hx).1, (hs.env x d hx).2.mono hle⟩, hhdr'⟩
 cases r with
 | val d =>
  obtain ⟨v, rfl, hr⟩ := hr
  exact hK k' _ w' _ hin2 (hsim.put (by cases dst <;> simp_all [putOK]) hr) (hk d obs' nx' hnx hpost)
 | pan ch =>
  obtain rfl := hr
  obtain ⟨s2, hw, hpn⟩ := hx ch obs' nx' hnx hpost
  obtain ⟨k2, g1, g2⟩ := hw k' a w' hin2 hsim
  exact hP ch k2 a w' s2 g1 g2 hpn
theorem CallP.x_ {P : Program} {Γ : Ctx} {s : St} {k : St → Prop} {dst : Option Tmp} {fop : Operand} {args : List Operand} {f caps} {ds : List D} {post : Out → List (Nat × Ob) → Nat → Prop} (hret : RetX P f ds s.obs s.next post)
  (hf : calleeOf (opd s fop) = some (f, caps)) (hc : callable P f = true) (hds : args.map (opd s) ++ caps = ds) (hp : putOK dst s)
  (hk : ∀ d obs' nx', s.next ≤ nx' → post (.val d) obs' nx' → k (({ s with obs := obs', next := nx' } : St).put dst d))
  (hx : ∀ ch obs' nx', s.next ≤ nx' → post (.pan ch) obs' nx' → ∃ s2, Wk Γ { s with obs := obs', next := nx' } s2 ∧ Γ.pan ch s2) : CallP P Γ fop args dst s k :=
 fun _ _ _ _ => EffP.callX hf hc hds hret hp hk hx
theorem CallP.xF {P : Program} {Γ : Ctx} {s : St} {k : St → Prop} {dst : Option Tmp} {fop : Operand} {args : List Operand} {f caps} {ds : List D} {post : Out → List (Nat × Ob) → Nat → Prop} (F obs : List (Nat × Ob)) (hret : RetX P f ds obs s.next post)
  (heq : ∀ i, getK s.obs i = getK (F ++ obs) i) (hF : ∀ i ob, getK F i = some ob → getK obs i = none)
  (hf : calleeOf (opd s fop) = some (f, caps)) (hc : callable P f = true) (hds : args.map (opd s) ++ caps = ds) (hp : putOK dst s)
  (hk : ∀ d o1 nx', s.next ≤ nx' → post (.val d) o1 nx' → k (({ s with obs := F ++ o1, next := nx' } : St).put dst d))
  (hx : ∀ ch o1 nx', s.next ≤ nx' → post (.pan ch) o1 nx' → ∃ s2, Wk Γ { s with obs := F ++ o1, next := nx' } s2 ∧ Γ.pan ch s2) : CallP P Γ fop args dst s k :=
 CallP.x_ ((hret.frame F hF).congr heq) hf hc hds hp (fun d o n hn ⟨o1, ho, hpo⟩ => by subst ho; exact hk d o1 n hn hpo) (fun ch o n hn ⟨o1, ho, hpo⟩ => by subst ho; exact hx ch o1 n hn hpo)
theorem CallP.x0 {P : Program} {Γ : Ctx} {s : St} {k : St → Prop} {dst : Option Tmp} {fop : Operand} {args : List Operand} {f caps} {ds : List D} {post : Out → List (Nat × Ob) → Nat → Prop} (hret : RetX P f ds [] s.next post)
  (hf : calleeOf (opd s fop) = some (f, caps)) (hc : callable P f = true) (hds : args.map (opd s) ++ caps = ds) (hp : putOK dst s)
  (hk : ∀ d o1 nx', s.next ≤ nx' → post (.val d) o1 nx' → k (({ s with obs := s.obs ++ o1, next := nx' } : St).put dst d))
  (hx : ∀ ch o1 nx', s.next ≤ nx' → post (.pan ch) o1 nx' → ∃ s2, Wk Γ { s with obs := s.obs ++ o1, next := nx' } s2 ∧ Γ.pan ch s2) : CallP P Γ fop args dst s k :=
 CallP.xF s.obs [] hret (fun i => by simp) (fun i ob _ => rfl) hf hc hds hp hk hx
theorem CallP.x1 {P : Program} {Γ : Ctx} {s : St} {k : St → Prop} {dst : Option Tmp} {fop : Operand} {args : List Operand} {f caps} {ds : List D} {post : Out → List (Nat × Ob) → Nat → Prop} {j : Nat} {ob : Ob} (hret : RetX P f ds [(j, ob)] s.next post)
  (hj : getK s.obs j = some ob) (hf : calleeOf (opd s fop) = some (f, caps)) (hc : callable P f = true) (hds : args.map (opd s) ++ caps = ds) (hp : putOK dst s)
  (hk : ∀ d o1 nx', s.next ≤ nx' → post (.val d) o1 nx' → k (({ s with obs := del s.obs j ++ o1, next := nx' } : St).put dst d))
  (hx : ∀ ch o1 nx', s.next ≤ nx' → post (.pan ch) o1 nx' → ∃ s2, Wk Γ { s with obs := del s.obs j ++ o1, next := nx' } s2 ∧ Γ.pan ch s2) : CallP P Γ fop args dst s k :=
 CallP.xF (del s.obs j) [(j, ob)] hret (fun i => by
  rw [getK_append, getK_del]
  by_cases h : i = j
  ·subst h; simp [hj, getK]
  ·simp only [if_neg h, getK]
   cases getK s.obs i <;> rfl) (fun i o hi => by
  rw [getK_del] at hi
  by_cases h : i = j
  ·rw [if_pos h] at hi; cases hi
  ·simp [getK, h]) hf hc hds hp hk hx
/-- A call that is handed one object, and goes through, or panics. -/
theorem CallP.ok1 {P : Program} {Γ : Ctx} {s : St} {k : St → Prop} {dst : Option Tmp} {fop : Operand} {args : List Operand} {f caps} {ds : List D} {j : Nat} {ob ob' : Ob} {d : D}
  (hret : RetX P f ds [(j, ob)] s.next fun r o n => r = .val d ∧ o = [(j, ob')] ∧ n = s.next)
  (hj : getK s.obs j = some ob) (hf : calleeOf (opd s fop) = some (f, caps)) (hc : callable P f = true) (hds : args.map (opd s) ++ caps = ds) (hp : putOK dst s)
  (hk : k (({ s with obs := del s.obs j ++ [(j, ob')], next := s.next } : St).put dst d)) : CallP P Γ fop args dst s k :=
 CallP.x1 hret hj hf hc hds hp (fun d' o1 nx' _ ⟨h1, h2, h3⟩ => by cases h1; subst h2; subst h3; exact hk) (fun ch o1 nx' _ ⟨h1, _⟩ => by cases h1)
theorem CallP.pan1 {P : Program} {Γ : Ctx} {s : St} {k : St → Prop} {dst : Option Tmp} {fop : Operand} {args : List Operand} {f caps} {ds : List D} {j : Nat} {ob : Ob} {ch : List PanicEntry} {p : Ob → Prop}
  (hret : RetX P f ds [(j, ob)] s.next fun r o n => r = .pan ch ∧ (∃ ob', p ob' ∧ o = [(j, ob')]) ∧ n = s.next)
  (hj : getK s.obs j = some ob) (hf : calleeOf (opd s fop) = some (f, caps)) (hc : callable P f = true) (hds : args.map (opd s) ++ caps = ds) (hp : putOK dst s)
  (hx : ∀ ob', p ob' → ∃ s2, Wk Γ { s with obs := del s.obs j ++ [(j, ob')], next := s.next } s2 ∧ Γ.pan ch s2) : CallP P Γ fop args dst s k :=
 CallP.x1 hret hj hf hc hds hp (fun d' o1 nx' _ ⟨h1, _⟩ => by cases h1) (fun ch' o1 nx' _ ⟨h1, ⟨ob', h2, h3⟩, h4⟩ => by cases h1; subst h3; subst h4; exact hx ob' h2)
/-- The same, and a second object that is gone behind it. -/
theorem CallP.x2 {P : Program} {Γ : Ctx} {s : St} {k : St → Prop} {dst : Option Tmp} {fop : Operand} {args : List Operand} {f caps} {ds : List D} {post : Out → List (Nat × Ob) → Nat → Prop} {j q : Nat} {ob oq : Ob} (hret : RetX P f ds [(j, ob), (q, oq)] s.next post)
  (hj : getK s.obs j = some ob) (hq : getK s.obs q = some oq) (hne : j ≠ q) (hf : calleeOf (opd s fop) = some (f, caps)) (hc : callable P f = true) (hds : args.map (opd s) ++ caps = ds) (hp : putOK dst s)
  (hk : ∀ d o1 nx', s.next ≤ nx' → post (.val d) o1 nx' → k (({ s with obs := del (del s.obs j) q ++ o1, next := nx' } : St).put dst d))
  (hx : ∀ ch o1 nx', s.next ≤ nx' → post (.pan ch) o1 nx' → ∃ s2, Wk Γ { s with obs := del (del s.obs j) q ++ o1, next := nx' } s2 ∧ Γ.pan ch s2) : CallP P Γ fop args dst s k :=
 CallP.xF (del (del s.obs j) q) [(j, ob), (q, oq)] hret (fun i => by
  rw [getK_append, getK_del, getK_del]
  by_cases h : i = q
  ·subst h; rw [if_pos rfl]; simp [getK, Ne.symm hne, hq]
  ·rw [if_neg h]
   by_cases h2 : i = j
   ·subst h2; simp [hj, getK]
   ·simp only [if_neg h2, getK, if_neg h]
    cases getK s.obs i <;> rfl) (fun i o hi => by
  rw [getK_del, getK_del] at hi
  by_cases h : i = q
  ·rw [if_pos h] at hi; cases hi
  ·rw [if_neg h] at hi
   by_cases h2 : i = j
   ·rw [if_pos h2] at hi; cases hi
   ·simp [getK, h, h2]) hf hc hds hp hk hx
/-- The same call, nothing put off. -/
def Ctx.base (Γ : Ctx) : Ctx := .of Γ.own.own Γ.k0 Γ.n0 Γ.w0
/-- A panic, up to what the state may be told az. -/
def PanG (Γ : Ctx) (post : Out → List (Nat × Ob) → Nat → Prop) (ch : List PanicEntry) (s : St) : Prop := ∃ s', Wk Γ s s' ∧ Γ.n0 ≤ s'.next ∧ post (.pan ch) s'.obs s'.next
/-- What a call leaves behind. -/
def RX (Γ : Ctx) (post : Out → List (Nat × Ob) → Nat → Prop) (e : Ending) (w' : World) : Prop :=
 ∃ r obs' nx' k', OutRep k' e r ∧ In Γ k' w' ∧ Sat k' Γ.own obs' w' ∧ (∀ i, nx' ≤ i → k'.hdr i = none) ∧ Γ.n0 ≤ nx' ∧ post r obs' nx'
theorem endW_results {P Γ fn e s K a w} {post : Out → List (Nat × Ob) → Nat → Prop} (hend : EndW P Γ fn Γ.n0 (fun d o n => post (.val d) o n) e s) (hin : In Γ K w) (hs : Sim K Γ.own s a w) :
  ∃ v, (results fn a.tmps).run P w = .ok v w ∧ RX Γ post (.returned v) w := by
 obtain ⟨s', hw, _, hres⟩ := hend
 obtain ⟨K', hin, hs⟩ := hw K a w hin hs
 obtain ⟨rs, rv, hfin, hrun, hlen, hr⟩ := resD_run hs _ _ hres
 have hres' : (results fn a.tmps).run P w = .ok (if h : rv.toArray.size = 1 then rv.toArray[0] else .tuple rv.toArray) w := by
  unfold results
  rw [Array.mapM_eq_mapM_toList]
  have e : (fn.results.toList.mapM fun (x : ResultVar) => match x with | .tmp t => (pure (a.tmps.getD t undef) : Sem Value) | .cell x t => do loadVar t (← asAddr (a.tmps.getD x undef))).run P w = .ok rv w := hrun
  simp only [Sem.run_bind, Sem.run_map, Result.andThen_ok]
  erw [e]
  simp
 have hrepv : Rep K' (oneOrTup rs) (if h : rv.toArray.size = 1 then rv.toArray[0] else .tuple rv.toArray) := by
  match rs, rv, hlen, hr with
  | [], [], _, hr => exact .tup [] [] rfl (by simp)
  | [d], [v], _, hr => simpa [oneOrTup] using hr 0 d rfl
  | d :: d1 :: ds, v :: v1 :: vs, hlen, hr =>
   simp only [oneOrTup]
   rw [dif_neg (by simp)]
   exact .tup _ _ hlen hr
 refine ⟨_, hres', ?_⟩
 rcases hfin with ⟨s2, ρ, d', hle, hd, hu, hnx, hpost⟩ | ⟨hnx, hpost⟩
 ·obtain ⟨h1, h2⟩ := Sim.weak hin hs hle
  exact ⟨.val d', s2.obs, s2.next, _, ⟨_, rfl, hrepv.weak hd hu⟩, h1, h2.sat, h2.hdr, hnx, hpost⟩
 ·exact ⟨.val _, s'.obs, s'.next, K', ⟨_, rfl, hrepv⟩, hin, hs.sat, hs.hdr, hnx, hpost⟩
theorem RX.conv {Γ Γ' : Ctx} {post e w'} (h : RX Γ post e w') (h1 : Γ'.own.own = Γ.own.own) (h2 : Γ'.k0 = Γ.k0) (h3 : Γ'.n0 = Γ.n0) (h4 : Γ'.w0 = Γ.w0) : RX Γ' post e w' := by
 obtain ⟨r, o, n, k', a, b, c, d, e, f⟩ := h
 exact ⟨r, o, n, k', a, b.conv h1 h2 h3 h4, by rw [h1]; exact c, d, by rw [h3]; exact e, f⟩
theorem Wk.conv {Γ Γ' : Ctx} {s s'} (h : Wk Γ s s') (h1 : Γ'.own = Γ.own) (h2 : Γ'.k0 = Γ.k0) (h3 : Γ'.n0 = Γ.n0) (h4 : Γ'.w0 = Γ.w0) : Wk Γ' s s' := fun K a w hin hs => by
 obtain ⟨K', g1, g2⟩ := h K a w (hin.conv (by rw [h1]) h2.symm h3.symm h4.symm) (by rw [← h1]; exact hs)
 exact ⟨K', g1.conv (by rw [h1]) h2 h3 h4, by rw [h1]; exact g2⟩
/-- A function's body, with all the ways in which it may end. -/
theorem RetX.of_bodyD {P f fn c ds obs nx post} (hf : P.funcs[f]? = some fn) (hb : fn.body = some c) (hn : ds.length ≤ fn.ntmps)
  (h : ∀ Γ : Ctx, Γ.n0 = nx → Γ.own.dfr = [] → (∀ ch s, PanG Γ post ch s → Γ.pan ch s) → (∀ e a w', bodyPostD P fn (RX Γ.base post) e a w' → Γ.esc e a w') → V P Γ c (entry ds fn.ntmps obs nx) (RunK P Γ (EndW P Γ fn nx fun d o n => post (.val d) o n) .done)) : RetX P f ds obs nx post := by
 intro k own w vs hsat hhdr hfresh hrep
 have hsz : vs.size = ds.length := hrep.1
 let Γ0 : Ctx := .of own k nx w
 let Γ : Ctx := ⟨⟨own, []⟩, k, nx, w, PanG Γ0 post, bodyPostD P fn (RX Γ0 post)⟩
 have hpan : ∀ ch s, PanG Γ post ch s → Γ.pan ch s := fun ch s ⟨s', h1, h2, h3⟩ => ⟨s', h1.conv rfl rfl rfl rfl, h2, h3⟩
 have hR : ∀ e w', RX Γ post e w' → RX Γ0 post e w' := fun e w' h => h.conv rfl rfl rfl rfl
 have hesc : ∀ e a w', bodyPostD P fn (RX Γ.base post) e a w' → Γ.esc e a w' := fun e a w' h => h
 refine calls_of_wp_defers (R := RX Γ0 post) hf hb (wp_mono (h Γ rfl rfl hpan hesc k _ w ⟨.refl _, hhdr, fun b o v e => .inl e, hfresh, rfl, rfl, rfl, Nat.le_refl _, fun _ _ => rfl⟩
  ⟨hsat, rfl, ?_, fun x d hx => ?_, hhdr⟩) ?_)
 ·simp [entry, hsz]; omega
 ·simp only [entry, getK_zipIdx, Nat.zero_le, if_true, Nat.sub_zero] at hx
  have hlt := (List.getElem?_eq_some_iff.1 hx).1
  refine ⟨by simp [entry]; omega, ?_⟩
  have := hrep.2 x d hx
  have e : (vs ++ Array.replicate (fn.ntmps - vs.size) undef).getD x undef = vs.getD x undef := by
   simp [Array.getElem?_append, show x < vs.size by omega]
  rw [e]
  exact this
 ·rintro e a' w' (⟨K', s', hin, hs, hend⟩ | hx)
  ·have hd : a'.defers = [] := hs.defers
   cases e with
   | panic ch =>
    obtain ⟨s2, hw, hn2, hp⟩ := (hend : PanG Γ0 post ch s')
    obtain ⟨K2, h1, h2⟩ := hw K' a' w' (hin.conv rfl rfl rfl rfl) hs
    show Leaves P fn a'.tmps (RX Γ0 post) a'.defers (.panicking ch) w'
    rw [hd]
    exact ⟨.pan ch, s2.obs, s2.next, K2, rfl, h1, h2.sat, h2.hdr, hn2, hp⟩
   | normal =>
    obtain ⟨v, h1, h2⟩ := endW_results (Γ := Γ) (post := post) hend hin hs
    show Leaves P fn a'.tmps (RX Γ0 post) a'.defers .returning w'
    rw [hd]
    exact ⟨v, h1, hR _ _ h2⟩
   | ret =>
    obtain ⟨v, h1, h2⟩ := endW_results (Γ := Γ) (post := post) hend hin hs
    show Leaves P fn a'.tmps (RX Γ0 post) a'.defers .returning w'
    rw [hd]
    exact ⟨v, h1, hR _ _ h2⟩
   | exit i => obtain ⟨_, _, h1, _⟩ := hend; rcases h1 with h1 | h1 <;> cases h1
   | goto i => obtain ⟨_, _, h1, _⟩ := hend; rcases h1 with h1 | h1 <;> cases h1
   | outgrown => obtain ⟨_, _, h1, _⟩ := hend; rcases h1 with h1 | h1 <;> cases h1
  ·exact hx.2
theorem RetX.of_bodyW {P f fn c ds obs nx post} (hf : P.funcs[f]? = some fn) (hb : fn.body = some c) (hn : ds.length ≤ fn.ntmps)
  (h : ∀ Γ : Ctx, Γ.n0 = nx → (∀ ch s, PanG Γ post ch s → Γ.pan ch s) → V P Γ c (entry ds fn.ntmps obs nx) (RunK P Γ (EndW P Γ fn nx fun d o n => post (.val d) o n) .done)) : RetX P f ds obs nx post :=
 RetX.of_bodyD hf hb hn fun Γ h1 _ h2 _ => h Γ h1 h2
end Go.VL
namespace Go.VL
open Go
/-- Code at which a walk stops. -/
@[irreducible] def Hold (c : Code) : Code := c
theorem hold_eq (c : Code) : Hold c = c := by unfold Hold; rfl
theorem hold_defer {id : Nat} {o1 : Oper} {dst : Option Tmp} {cl : Call} {type : TypeId} {pos : String} {after : Array Edge} {guard : Option (Nat × Bool)} {rest : Code} :
  Code.seq (.region id #[o1, { dst, op := .defer cl, type, pos, after, guard }] false) rest = Hold (.seq (.region id #[o1, { dst, op := .defer cl, type, pos, after, guard }] false) rest) := (hold_eq _).symm
/-- What a deferred function does to the objects, and to the frame below. -/
def RetDf (P : Program) (g : FuncId) (caps : List D) (obs : List (Nat × Ob)) (nx : Nat) (u : FrameMode) (post : FrameMode → List (Nat × Ob) → Nat → Prop) : Prop :=
 ∀ (k : Kr) (own : Nat → Prop) (w : World) (vs : Array Value), Sat k own obs w → (∀ i, nx ≤ i → k.hdr i = none) → (∀ b, w.heap.size ≤ b → own b) → RepL k caps vs →
  CallsD P g vs u w fun e u' w' => ∃ v obs' nx' k', e = .returned v ∧ In (.of own k nx w) k' w' ∧ Sat k' own obs' w' ∧ (∀ i, nx' ≤ i → k'.hdr i = none) ∧ nx ≤ nx' ∧ post u' obs' nx'
theorem RetDf.mono {P g caps obs nx u} {p q : FrameMode → List (Nat × Ob) → Nat → Prop} (h : RetDf P g caps obs nx u p) (hq : ∀ u o n, p u o n → q u o n) : RetDf P g caps obs nx u q :=
 fun k own w vs h1 h2 h3 h4 => (h k own w vs h1 h2 h3 h4).mono fun _ _ _ ⟨v, o, n, k', e, a, b, c, d, hp⟩ => ⟨v, o, n, k', e, a, b, c, d, hq _ _ _ hp⟩
theorem RetDf.congr {P g caps obs obs' nx u post} (h : RetDf P g caps obs nx u post) (e : ∀ i, getK obs' i = getK obs i) : RetDf P g caps obs' nx u post :=
 fun k own w vs hsat hhdr hfresh hrep => h k own w vs (Sat.congr hsat fun i => (e i).symm) hhdr hfresh hrep
theorem RetDf.frame {P g caps obs nx u post} (F : List (Nat × Ob)) (hF : ∀ i ob, getK F i = some ob → getK obs i = none) (h : RetDf P g caps obs nx u post) :
  RetDf P g caps (F ++ obs) nx u (fun u o n => ∃ o1, o = F ++ o1 ∧ post u o1 n) := by
 intro k own w vs hsat hhdr hfresh hrep
 refine (h k _ w vs (frame_sat0 hF hsat) hhdr (frame_fresh hsat hfresh) hrep).mono ?_
 rintro e u' w' ⟨v, o1, n', k', he, hin, hs1, hh1, hle, hp⟩
 exact ⟨v, F ++ o1, n', k', he, frame_in hfresh hin, frame_sat hsat hin hs1, hh1, hle, o1, rfl, hp⟩
/-- Where a function leaves that has put off g: the deferred call makes its end good. -/
def LeaveD (P : Program) (Γb : Ctx) (fn : Func) (post : Out → List (Nat × Ob) → Nat → Prop) (g : FuncId) (caps : List D) (u : FrameMode) (s : St) : Prop :=
 RetDf P g caps s.obs s.next u fun u' o n => settle u' = .returning ∧ EndW P Γb fn Γb.n0 (fun d o n => post (.val d) o n) .ret { s with obs := o, next := n }
def EndD (P : Program) (Γb : Ctx) (fn : Func) (post : Out → List (Nat × Ob) → Nat → Prop) (g : FuncId) (caps : List D) (e : Exit) (s : St) : Prop := e = .ret ∧ LeaveD P Γb fn post g caps .returning s
theorem leaveD_run {P Γ Γ' fn post g caps u s K K1 a w w1} (hmode : u ≠ .run) (h : LeaveD P Γ.base fn post g caps u s) (hin1 : In Γ K1 w1) (hin : In Γ' K w) (hs : Sim K Γ'.own s a w) (ho : Γ'.own.own = Γ.own.own) (hk : Γ'.k0 = K1) (hn : ∀ i, Γ'.n0 ≤ i → K1.hdr i = none) (hw : Γ'.w0 = w1)
  (hc : callable P g = true) (vs : Array Value) (hrep : RepL K1 caps vs) :
  Leaves P fn a.tmps (RX Γ.base post) [{ target := .fn (.func g) vs, args := #[] }] u w := by
 have hle1 : K1.le K := by rw [← hk]; exact hin.le
 have hin0 : In Γ K w := hin1.step hle1 (fun b o v e => by have := hin.memNew b o v e; rw [hk, ho] at this; exact this) (by rw [hin.os, hw]) (by rw [hin.tape, hw]) (by rw [hin.output, hw]) (by have := hin.size; rw [hw] at this; exact this)
  (fun b hb => by have := hin.block b (by rw [ho]; exact hb); rw [hw] at this; exact this)
 refine leaves_cons (f := g) (args := vs) hmode ?_ ?_
 ·unfold callable at hc
  split at hc
  ·rename_i fn' hfn
   simp at hc
   obtain ⟨hb, hname⟩ := hc
   have hb' : fn'.body.isNone = false := by cases hbb : fn'.body <;> simp_all
   simp [invoke, callFunc, hfn, hb', hname]
   intro h0
   rw [h0] at hb
   simp at hb
  ·cases hc
 ·refine (h K Γ'.own.own w vs hs.sat hs.hdr (fun b hb => by rw [ho]; exact hin0.own_of_ge hb) ⟨hrep.1, fun j d hj => (hrep.2 j d hj).mono hle1⟩).mono ?_
  rintro e u' w' ⟨v, o, n, k', rfl, hin2, hsat, hhdr, hnx, hset, hend⟩
  rw [ho] at hin2 hsat
  have hin3 : In Γ k' w' := hin0.step hin2.le (fun b o v e => hin2.memNew b o v e) hin2.os hin2.tape hin2.output hin2.size hin2.block
  have hsim : Sim k' Γ.base.own ({ s with obs := o, next := n } : St) { a with defers := [] } w' := ⟨hsat, rfl, hs.size, fun x d hx => ⟨(hs.env x d hx).1, (hs.env x d hx).2.mono hin2.le⟩, hhdr⟩
  obtain ⟨v', h1, h2⟩ := endW_results (Γ := Γ.base) (post := post) hend (hin3.conv rfl rfl rfl rfl) hsim
  show Leaves P fn a.tmps (RX Γ.base post) [] (settle u') w'
  rw [hset]
  exact ⟨v', h1, h2⟩
/-- A function value is made and put off: what follows is walked in a context of its own. -/
theorem V_defer {P Γ fn post s Q kt id g t type pos after type2 pos2 after2 rest} {ts : Array TypeId} {caps : List Operand}
  (hesc : ∀ e a w', bodyPostD P fn (RX Γ.base post) e a w' → Γ.esc e a w') (hd : Γ.own.dfr = []) (hc : callable P g = true) (ht : t < s.n)
  (h : ∀ Γ' : Ctx, Γ'.n0 = s.next → (∀ ch s2, LeaveD P Γ.base fn post g (caps.map (opd s)) (.panicking ch) s2 → Γ'.pan ch s2) →
    V P Γ' rest (s.put (some t) (.fnc (.func g) (caps.map (opd s)))) (RunK P Γ' (EndD P Γ.base fn post g (caps.map (opd s))) .done)) :
  V P Γ (Hold (.seq (.region id #[{ dst := some t, op := .makeFunc (.func g) #[] caps.toArray, type := type, pos := pos, after := after, guard := none },
   { dst := none, op := .defer { callee := .value (.tmp t), args := #[], argTypes := ts }, type := type2, pos := pos2, after := after2, guard := none }] false) rest)) s (RunK P Γ Q kt) := by
 rw [hold_eq]
 intro K a w hin hs
 refine wp_seq (wp_region_lit ?_)
 have hrep : RepL K (caps.map (opd s)) (caps.map a.eval).toArray := ⟨by simp, fun j d hj => by have := listRep hs caps j d hj; simpa using this⟩
 have hfv : Rep K (.fnc (.func g) (caps.map (opd s))) (.func (.func g) #[] (caps.map a.eval).toArray) := .fnc _ _ _ (by simp) (listRep hs caps)
 have hts : t < a.tmps.size := by rw [hs.size]; exact ht
 refine wpList_plain rfl fun K1 hK1 => ?_
 have hrun1 : (execOp a.eval { dst := some t, op := .makeFunc (.func g) #[] caps.toArray, type := type, pos := pos, after := after, guard := none }).run P w = .ok (.value (.func (.func g) #[] (caps.map a.eval).toArray)) w := by
  simp [execOp, Instr.makeFunc]
 unfold Oper.wp
 rw [hrun1]
 refine hK1 _ _ (wpList_plain rfl fun K2 hK2 => ?_)
 generalize ha1 : (a.put (some t) (.func (.func g) #[] (caps.map a.eval).toArray)) = a1
 have hev : a1.eval (.tmp t) = .func (.func g) #[] (caps.map a.eval).toArray := by
  subst ha1
  simp [Act.eval, Act.put, hts]
 have hrun2 : (execOp a1.eval { dst := none, op := .defer { callee := .value (.tmp t), args := #[], argTypes := ts }, type := type2, pos := pos2, after := after2, guard := none }).run P w = .ok (.defer { target := .fn (.func g) (caps.map a.eval).toArray, args := #[] }) w := by
  simp [execOp, resolve, hev, Deferred.ofValue]
 unfold Oper.wp
 rw [hrun2]
 refine hK2 _ _ ?_
 let Γ' : Ctx := ⟨⟨Γ.own.own, [{ target := .fn (.func g) (caps.map a.eval).toArray, args := #[] }]⟩, K, s.next, w, fun ch s2 => LeaveD P Γ.base fn post g (caps.map (opd s)) (.panicking ch) s2, fun _ _ _ => False⟩
 have hin' : In Γ' K w := ⟨.refl _, hs.hdr, fun b o v e => .inl e, fun b hb => hin.own_of_ge hb, rfl, rfl, rfl, Nat.le_refl _, fun _ _ => rfl⟩
 have hs1 : Sim K Γ.own (s.put (some t) (.fnc (.func g) (caps.map (opd s)))) a1 w := by
  subst ha1
  exact hs.put (by simpa [putOK] using ht) hfv
 have hs' : Sim K Γ'.own (s.put (some t) (.fnc (.func g) (caps.map (opd s)))) (({ a1 with defers := { target := .fn (.func g) (caps.map a.eval).toArray, args := #[] } :: a1.defers } : Act).put none undef) w :=
  ⟨hs1.sat, by have := hs1.defers; rw [hd] at this; show _ :: a1.defers = _; rw [this], hs1.size, hs1.env, hs1.hdr⟩
 refine wp_mono (h Γ' rfl (fun ch s2 h => h) K _ w hin' hs') ?_
 rintro e a' w' (⟨K', s', h1, h2, h3⟩ | h3)
 ·have hdf : a'.defers = [{ target := .fn (.func g) (caps.map a.eval).toArray, args := #[] }] := h2.defers
  have go : ∀ u, u ≠ .run → LeaveD P Γ.base fn post g (caps.map (opd s)) u s' → Leaves P fn a'.tmps (RX Γ.base post) a'.defers u w' := fun u hu hl => by
   rw [hdf]
   exact leaveD_run hu hl hin h1 h2 rfl rfl hs.hdr rfl hc _ hrep
  cases e with
  | panic ch => exact .inr ⟨trivial, hesc _ _ _ (go (.panicking ch) (by simp) h3)⟩
  | ret => exact .inr ⟨trivial, hesc _ _ _ (go .returning (by simp) h3.2)⟩
  | normal => exact absurd h3.1 (by simp)
  | exit i => exact absurd h3.1 (by simp)
  | goto i => exact absurd h3.1 (by simp)
  | outgrown => exact absurd h3.1 (by simp)
 ·exact h3.2.elim
def HS (P : Program) (Γ : Ctx) : List Oper → St → (St → Prop) → Prop
 | [], s, k => k s
 | o :: l, s, k => o.guard = none ∧ hstep P Γ o.dst o.op s fun s' => HS P Γ l s' k
theorem hs_ops {P Γ cs} {Q : Exit → Act → List Frame → World → Prop} {k : St → Prop} (ops : Array Oper) : ∀ (l : List Oper) (i : Nat) (s : St) (K : Kr) (a : Act) (w : World), (∀ j, ops[i + j]? = l[j]?) → HS P Γ l s k → In Γ K w → Sim K Γ.own s a w →
  (∀ K' a' w' s', In Γ K' w' → Sim K' Γ.own s' a' w' → k s' → Q .normal a' cs w') → (∀ ch K' a' w' s', In Γ K' w' → Sim K' Γ.own s' a' w' → Γ.pan ch s' → Q (.panic ch) a' cs w') →
  wpOpsS P ops Q (List.range' i l.length) a cs w
 | [], i, s, K, a, w, _, h, hin, hs, hQ, _ => by simpa [wpOpsS] using hQ K a w s hin hs h
 | o :: l, i, s, K, a, w, ho, h, hin, hs, hQ, hP => by
  have h0 : ops[i]? = some o := by simpa using ho 0
  obtain ⟨hg, hst⟩ := h
  rw [List.length_cons, List.range'_succ]
  unfold wpOpsS
  rw [h0]
  simp only [Region.wanted, hg, if_true]
  have hw := hstep_effG hst K a w hin hs (fun a' w' => wpOpsS P ops Q (List.range' (i + 1) l.length) a' cs w') (fun e a' w' => Q e a' cs w')
   (fun K' a' w' s' h1 h2 h3 => hs_ops ops l (i + 1) s' K' a' w' (fun j => by have := ho (j + 1); simpa [Nat.add_assoc, Nat.add_comm 1 j] using this) h3 h1 h2 hQ hP) hP
  unfold Oper.wp at hw
  split
  ·rename_i w' hr
   rw [hr] at hw
   exact hw.elim
  ·exact hw
/-- What recover hands out, and how the frame below goes on. -/
def recU : FrameMode → Value × FrameMode
 | .panicking ({ v, recovered := false, goexit := false } :: older) => (v, .panicking ({ v, recovered := true } :: older))
 | u => (.nilIface, u)
def EndR (Γ : Ctx) (post : FrameMode → List (Nat × Ob) → Nat → Prop) (u' : FrameMode) (e : Exit) (s : St) : Prop := (e = .normal ∨ e = .ret) ∧ ∃ s', Wk Γ s s' ∧ Γ.n0 ≤ s'.next ∧ post u' s'.obs s'.next
theorem RetDf.of_body {P g fn caps obs nx u post id x type pos after l rest} (hf : P.funcs[g]? = some fn)
  (hb : fn.body = some (.seq (.region id ({ dst := some x, op := .call { callee := .builtin .recover, args := #[], argTypes := #[] }, type := type, pos := pos, after := after, guard := none } :: l : List Oper).toArray false) rest))
  (hn : caps.length ≤ fn.ntmps) (hx : x < fn.ntmps) (hres : fn.results = #[])
  (h : ∀ Γ : Ctx, Γ.n0 = nx → HS P Γ l ((entry caps fn.ntmps obs nx).put (some x) (.u (.oth (recU u).1))) fun s' => V P Γ rest s' (RunK P Γ (EndR Γ post (recU u).2) .done)) : RetDf P g caps obs nx u post := by
 intro k own w vs hsat hhdr hfresh hrep
 have hsz : vs.size = caps.length := hrep.1
 let Γ : Ctx := .of own k nx w
 have hin : In Γ k w := ⟨.refl _, hhdr, fun b o v e => .inl e, hfresh, rfl, rfl, rfl, Nat.le_refl _, fun _ _ => rfl⟩
 have hs : Sim k Γ.own (entry caps fn.ntmps obs nx) { tmps := vs ++ Array.replicate (fn.ntmps - vs.size) undef, defers := [] } w := by
  refine ⟨hsat, rfl, ?_, fun y d hy => ?_, hhdr⟩
  ·simp [entry, hsz]; omega
  ·simp only [entry, getK_zipIdx, Nat.zero_le, if_true, Nat.sub_zero] at hy
   have hlt := (List.getElem?_eq_some_iff.1 hy).1
   refine ⟨by simp [entry]; omega, ?_⟩
   have := hrep.2 y d hy
   have e : (vs ++ Array.replicate (fn.ntmps - vs.size) undef).getD y undef = vs.getD y undef := by
    simp [Array.getElem?_append, show y < vs.size by omega]
   rw [e]
   exact this
 refine callsD_of_wpS hf hb fun c0 cs hm => wpS_seq (wpS_region ?_)
 have hsize : ({ dst := some x, op := .call { callee := .builtin .recover, args := #[], argTypes := #[] }, type := type, pos := pos, after := after, guard := none } :: l : List Oper).toArray.size = l.length + 1 := by simp
 rw [hsize, List.range_eq_range', List.range'_succ]
 generalize hops : ({ dst := some x, op := .call { callee := .builtin .recover, args := #[], argTypes := #[] }, type := type, pos := pos, after := after, guard := none } :: l : List Oper).toArray = ops
 have h0 : ops[0]? = some { dst := some x, op := .call { callee := .builtin .recover, args := #[], argTypes := #[] }, type := type, pos := pos, after := after, guard := none } := by rw [← hops]; simp
 unfold wpOpsS
 rw [h0]
 have hrun : ∀ ρ : Operand → Value, (execOp ρ { dst := some x, op := .call { callee := .builtin .recover, args := #[], argTypes := #[] }, type := type, pos := pos, after := after, guard := none }).run P w = .ok .recover w := fun ρ => by
  simp [execOp, resolve, invoke, builtin]
 simp only [Region.wanted, if_true, hrun]
 have hrec : recoverD (c0 :: cs) = some ((recU u).1, { c0 with mode := (recU u).2 } :: cs) ∨ (recoverD (c0 :: cs) = none ∧ (recU u).1 = .nilIface ∧ { c0 with mode := (recU u).2 } = c0) := by
  subst hm
  have same : ∀ m, c0.mode = m → ({ c0 with mode := m } : Frame) = c0 := fun m h => by rw [← h]
  cases hmo : c0.mode with
  | run => exact .inr ⟨by simp [recoverD, hmo], rfl, same _ hmo⟩
  | returning => exact .inr ⟨by simp [recoverD, hmo], rfl, same _ hmo⟩
  | panicking ch =>
   cases ch with
   | nil => exact .inr ⟨by simp [recoverD, hmo], rfl, same _ hmo⟩
   | cons e older =>
    obtain ⟨v, r, g⟩ := e
    cases r <;> cases g
    ·exact .inl (by simp [recoverD, hmo, recU])
    ·exact .inr ⟨by simp [recoverD, hmo], rfl, same _ hmo⟩
    ·exact .inr ⟨by simp [recoverD, hmo], rfl, same _ hmo⟩
    ·exact .inr ⟨by simp [recoverD, hmo], rfl, same _ hmo⟩
 have main : wpOpsS P ops (Exit.thenS (rest.wpS P (bodyPostS P fn c0 cs fun e u' w' => ∃ v obs' nx' k', e = .returned v ∧ In (.of own k nx w) k' w' ∧ Sat k' own obs' w' ∧ (∀ i, nx' ≤ i → k'.hdr i = none) ∧ nx ≤ nx' ∧ post u' obs' nx'))
   (bodyPostS P fn c0 cs fun e u' w' => ∃ v obs' nx' k', e = .returned v ∧ In (.of own k nx w) k' w' ∧ Sat k' own obs' w' ∧ (∀ i, nx' ≤ i → k'.hdr i = none) ∧ nx ≤ nx' ∧ post u' obs' nx')) (List.range' (0 + 1) l.length)
   (Act.put { tmps := vs ++ Array.replicate (fn.ntmps - vs.size) undef, defers := [] } (some x) (recU u).1) ({ c0 with mode := (recU u).2 } :: cs) w := by
  refine hs_ops ops l (0 + 1) _ k _ w (fun j => by rw [← hops]; simp [Nat.add_comm 1 j]) (h Γ rfl) hin (hs.put (by simpa [putOK, entry] using hx) (.u _ _ (.oth _))) (fun K' a' w' s' h1 h2 h3 => ?_) (fun ch K' a' w' s' _ _ h3 => h3.elim)
  refine wpS_of_wp (wp_mono (h3 K' a' w' h1 h2) ?_)
  rintro e a2 w2 (⟨K2, s2, g1, g2, g3⟩ | g3)
  ·have hd2 : a2.defers = [] := g2.defers
   have fin : EndR Γ post (recU u).2 e s2 → a2.defers = [] ∧ ∃ u', ({ c0 with mode := (recU u).2 } :: cs : List Frame) = { c0 with mode := u' } :: cs ∧ ∃ v, (results fn a2.tmps).run P w2 = .ok v w2 ∧
     ∃ v' obs' nx' k', Ending.returned v = .returned v' ∧ In (.of own k nx w) k' w2 ∧ Sat k' own obs' w2 ∧ (∀ i, nx' ≤ i → k'.hdr i = none) ∧ nx ≤ nx' ∧ post u' obs' nx' := fun ⟨_, s3, hw, hnx, hp⟩ => by
    obtain ⟨K3, q1, q2⟩ := hw K2 a2 w2 g1 g2
    exact ⟨hd2, _, rfl, .tuple #[], by simp [results, hres], _, s3.obs, s3.next, K3, rfl, q1, q2.sat, q2.hdr, hnx, hp⟩
   cases e with
   | normal => exact fin g3
   | ret => exact fin g3
   | panic ch => exact g3.elim
   | exit i => rcases g3.1 with h | h <;> cases h
   | goto i => rcases g3.1 with h | h <;> cases h
   | outgrown => rcases g3.1 with h | h <;> cases h
  ·exact g3.2.elim
 rcases hrec with hr | ⟨hr, h1, h2⟩
 ·rw [hr]
  exact main
 ·rw [hr]
  rw [h1, h2] at main
  exact main
end Go.VL
namespace Go.VL
open Go
/-- A call that is sure to panic, wherever its operands and objects are az here. -/
def StopE (P : Program) (Γ : Ctx) (s : St) (op : Op) : Prop :=
 ∀ s' : St, s'.n = s.n → (∀ y, getK s'.obs y = getK s.obs y) → (∀ x ∈ op.operands, opd s' x = opd s x) → s.next ≤ s'.next → ∀ o : Oper, o.op = op → o.guard = none → putOK o.dst s' → EffP P Γ o s' fun _ => False
/-- A call that changes the objects it is handed, and makes none. -/
def CallE (P : Program) (N : Nat) (s : St) (op : Op) (d : D) (W : Wr) (R : List Nat) : Prop :=
 ∃ fop args f caps, ∃ (O O' : List (Nat × Ob)) (L : List Nat), callOf op = some (fop, args) ∧ calleeOf (opd s fop) = some (f, caps) ∧ callable P f = true ∧ R = O.map (·.1) ∧ (∀ y, y ∈ keys W ↔ L.contains y = true ∧ y ∈ O.map (·.1)) ∧ (∀ y, y ∈ keys W → getK W y = some (getK O' y)) ∧
  (∀ y, L.contains y = false → getK O' y = getK O y) ∧ (∀ p ∈ O, getK s.obs p.1 = some p.2) ∧ (O.map (·.1)).Nodup ∧ (d.under N = true ∧ ∀ p ∈ O', p.2.under N = true) ∧
  ∀ nx, s.next ≤ nx → RetX P f (args.map (opd s) ++ caps) O nx fun r o n => r = .val d ∧ (∀ y, getK o y = getK O' y) ∧ n = nx
/-- A call that changes nothing of what it is handed, and makes one object. -/
def CallN (P : Program) (N : Nat) (s : St) (op : Op) (d : D) (W : Wr) (cr : Option Nat) (R : List Nat) : Prop :=
 ∃ fop args f caps, ∃ (O : List (Nat × Ob)) (e : ERes) (nb : Ob) (x0 : Nat), callOf op = some (fop, args) ∧ calleeOf (opd s fop) = some (f, caps) ∧ callable P f = true ∧ R = O.map (·.1) ∧ (e.U = [] ∧ e.nw = some nb ∧ nb.under N = true) ∧
  (cr = some x0 ∧ W = (x0, some nb) :: e.U ∧ d = mkD e.how x0) ∧ (∀ p ∈ O, getK s.obs p.1 = some p.2) ∧
  ∀ nx, s.next ≤ nx → RetX P f (args.map (opd s) ++ caps) O nx fun r o n => r = .val (mkD e.how nx) ∧ (∀ y, getK o y = getK ((nx, nb) :: O) y) ∧ n = nx + 1
def Op1X (P : Program) (N : Nat) (s : St) (op : Op) (dst : Option Tmp) (d : D) (W : Wr) (cr : Option Nat) (R : List Nat) : Prop :=
 Op1 P s op dst d W cr R ∨ (CallE P N s op d W R ∧ cr = none) ∨ CallN P N s op d W cr R
def OpGX (P : Program) (N : Nat) (all : Array Oper) (s : St) (o : Oper) (d : D) (W : Wr) (cr : Option Nat) (R : List Nat) : Prop :=
 match o.guard with
 | none => Op1X P N s o.op o.dst d W cr R
 | some (j, want) => ∃ t, guardTmp all j = some t ∧ ((∃ b, getK s.env t = some (.u (.bool b)) ∧
  if b = want then Op1X P N s o.op o.dst d W cr R else d = .un ∧ W = [] ∧ cr = none) ∨ (getK s.env t = some .un ∧ d = .un ∧ W = [] ∧ cr = none))
theorem getK_filterN {α : Type} (l : List (Nat × α)) (c : List Nat) (y : Nat) : getK (l.filter fun p => !c.contains p.1) y = if c.contains y = true then none else getK l y := by
 induction l with
 | nil => simp [getK]
 | cons p l ih =>
  obtain ⟨k, x⟩ := p
  rw [List.filter_cons]
  by_cases hk : c.contains k = true
  ·rw [if_neg (by simpa using hk), ih, getK_cons]
   by_cases hy : y = k
   ·subst hy; rw [if_pos hk, if_pos hk]
   ·rw [if_neg hy]
  ·rw [if_pos (by simpa using hk), getK_cons, getK_cons, ih]
   by_cases hy : y = k
   ·subst hy; rw [if_pos rfl, if_pos rfl, if_neg hk]
   ·rw [if_neg hy, if_neg hy]
theorem getK_filterK {α : Type} (l : List (Nat × α)) (c : List Nat) (y : Nat) : getK (l.filter fun p => c.contains p.1) y = if c.contains y = true then getK l y else none := by
 induction l with
 | nil => simp [getK]
 | cons p l ih =>
  obtain ⟨k, x⟩ := p
  rw [List.filter_cons]
  by_cases hk : c.contains k = true
  ·rw [if_pos (by exact hk), getK_cons, getK_cons, ih]
   by_cases hy : y = k
   ·subst hy; rw [if_pos rfl, if_pos rfl, if_pos hk]
   ·rw [if_neg hy, if_neg hy]
  ·rw [if_neg (by exact hk), ih, getK_cons]
   by_cases hy : y = k
   ·subst hy; rw [if_neg hk, if_neg hk]
   ·rw [if_neg hy]
theorem getK_memK {α : Type} {l : List (Nat × α)} {y : Nat} {x : α} (h : getK l y = some x) : (y, x) ∈ l := by
 induction l with
 | nil => cases h
 | cons p l ih =>
  obtain ⟨k, d⟩ := p
  rw [getK_cons] at h
  by_cases hyk : y = k
  ·rw [if_pos hyk] at h; cases h; subst hyk; simp
  ·rw [if_neg hyk] at h; exact List.mem_cons_of_mem _ (ih h)
theorem getK_isSome {α : Type} {l : List (Nat × α)} {y : Nat} (h : y ∈ l.map (·.1)) : ∃ x, getK l y = some x := by
 induction l with
 | nil => cases h
 | cons p l ih =>
  obtain ⟨k, d⟩ := p
  rw [getK_cons]
  by_cases hyk : y = k
  ·exact ⟨d, by rw [if_pos hyk]⟩
  ·rw [if_neg hyk]
   simp only [List.map_cons, List.mem_cons] at h
   exact ih (h.resolve_left hyk)
theorem getK_some_map (O : List (Nat × Ob)) (y : Nat) : getK (O.map fun p => (p.1, some p.2) : Wr) y = (getK O y).map some := by
 induction O with
 | nil => rfl
 | cons p l ih =>
  obtain ⟨k, d⟩ := p
  rw [List.map_cons, getK_cons, getK_cons, ih]
  split <;> rfl
theorem good_under {ρ : Nat → Nat} {N M : Nat} (hρ : ∀ y, y < N → ρ y = y) (hNM : N ≤ M) : ∀ {d : D}, d.under N = true → Good ρ M d
 | .u x, _ => ⟨by simp [D.ren], by simp [D.under]⟩
 | .any, _ => ⟨by simp [D.ren], by simp [D.under]⟩
 | .ptr i off, h => by simp [D.under] at h; exact ⟨by simp [D.ren, hρ i h], by simp [D.under]; omega⟩
 | .vec i len, h => by simp [D.under] at h; exact ⟨by simp [D.ren, hρ i h], by simp [D.under]; omega⟩
 | .mp i, h => by simp [D.under] at h; exact ⟨by simp [D.ren, hρ i h], by simp [D.under]; omega⟩
 | .elt i sz idx off, h => by simp [D.under] at h; exact ⟨by simp [D.ren, hρ i h], by simp [D.under]; omega⟩
 | .fnc f caps, h => by
  have hc : ∀ c ∈ caps, Good ρ M c := fun c hc => good_under hρ hNM (by rw [D.under] at h; simp only [List.all_map, List.all_eq_true] at h; exact h c hc)
  refine ⟨by rw [D.ren]; congr 1; exact (List.map_congr_left fun c hc' => (hc c hc').1).trans (List.map_id _), ?_⟩
  rw [D.under]
  simp only [List.all_map, List.all_eq_true]
  exact fun c hc' => (hc c hc').2
 | .bnd f caps, h => by
  have hc : ∀ c ∈ caps, Good ρ M c := fun c hc => good_under hρ hNM (by rw [D.under] at h; simp only [List.all_map, List.all_eq_true] at h; exact h c hc)
  refine ⟨by rw [D.ren]; congr 1; exact (List.map_congr_left fun c hc' => (hc c hc').1).trans (List.map_id _), ?_⟩
  rw [D.under]
  simp only [List.all_map, List.all_eq_true]
  exact fun c hc' => (hc c hc').2
 | .agg caps, h => by
  have hc : ∀ c ∈ caps, Good ρ M c := fun c hc => good_under hρ hNM (by rw [D.under] at h; simp only [List.all_map, List.all_eq_true] at h; exact h c hc)
  refine ⟨by rw [D.ren]; congr 1; exact (List.map_congr_left fun c hc' => (hc c hc').1).trans (List.map_id _), ?_⟩
  rw [D.under]
  simp only [List.all_map, List.all_eq_true]
  exact fun c hc' => (hc c hc').2
 | .tup caps, h => by
  have hc : ∀ c ∈ caps, Good ρ M c := fun c hc => good_under hρ hNM (by rw [D.under] at h; simp only [List.all_map, List.all_eq_true] at h; exact h c hc)
  refine ⟨by rw [D.ren]; congr 1; exact (List.map_congr_left fun c hc' => (hc c hc').1).trans (List.map_id _), ?_⟩
  rw [D.under]
  simp only [List.all_map, List.all_eq_true]
  exact fun c hc' => (hc c hc').2
theorem ob_good_under {ρ : Nat → Nat} {N M : Nat} (hρ : ∀ y, y < N → ρ y = y) (hNM : N ≤ M) {ob : Ob} (h : ob.under N = true) : ob.all (Good ρ M) := by
 cases ob with
 | it => trivial
 | nw => trivial
 | sit => trivial
 | box cs => exact fun c hc => good_under hρ hNM ((List.all_eq_true.1 h) c hc)
 | vec e sz rows => exact fun r hr c hc => good_under hρ hNM ((List.all_eq_true.1 ((List.all_eq_true.1 h) r hr)) c hc)
 | map kk ag es => exact fun p hp c hc => good_under hρ hNM ((List.all_eq_true.1 ((List.all_eq_true.1 h) p hp)) c hc)
/-- What comes before stands before. -/
theorem befB_lt {ops : List Oper} (hord : ordOK ops = true) : ∀ {i j : Nat} {y : Oper}, ops[j]? = some y → befB ops ops.length i j = true → i < j := by
 have key : ∀ (n i j : Nat) (y : Oper), ops[j]? = some y → befB ops n i j = true → i < j := by
  intro n
  induction n with
  | zero => intro i j y hj h; simp [befB] at h
  | succ n ih =>
   intro i j y hj h
   simp only [befB, hj] at h
   rw [List.any_eq_true] at h
   obtain ⟨p, hp, h⟩ := h
   have hlt := (ord_pred hord hj).1 p hp
   simp only [Bool.or_eq_true, beq_iff_eq] at h
   rcases h with rfl | h
   ·exact hlt
   ·have hpl : p < ops.length := by have := (List.getElem?_eq_some_iff.1 hj).1; omega
    have := ih i p _ (List.getElem?_eq_getElem hpl) h
    omega
 exact fun {i j y} hj h => key _ i j y hj h
theorem EffP.guard {P Γ s k} {dst op type pos after guard} (h : EffP P Γ { dst, op, type, pos, after, guard := none } s k) : EffP P Γ { dst, op, type, pos, after, guard } s k := h
/-- All orders of operations, from a state on. -/
def VA (P : Program) (Γ : Ctx) (ops : List Oper) (s : St) (R : Exit → St → Prop) : Prop :=
 ∀ K a w, In Γ K w → Sim K Γ.own s a w → wpAny P .any ops.toArray (VPost Γ R) ops.toArray.size (Array.replicate ops.toArray.size false) a { w with drawn := w.drawn + 1 }
set_option maxHeartbeats 4000000 in
theorem VA_draw4 {P Γ} {R0 : Exit → St → Prop} {ops : List Oper} {T : Nat → D} {W : Nat → Wr} {cr : Nat → Option Nat} {R : Nat → List Nat} {kd : Nat → Nat} {s : St} {M : Nat}
  (hord : ordOK ops = true) (hn0 : Γ.n0 ≤ s.next) (hM : s.next ≤ M)
  (hcr : ∀ i x, cr i = some x → s.next ≤ x ∧ x < M) (hcr1 : ∀ i j x, cr i = some x → cr j = some x → i = j)
  (hpair : ∀ i j, i < j → j < ops.length → befB ops ops.length i j = false → (∀ y ∈ keys (W i), y ∉ R j ∧ y ∉ keys (W j)) ∧ ∀ y ∈ keys (W j), y ∉ R i)
  (hkd : ∀ i, kd i ≠ 0 → W i = [] ∧ cr i = none) (hstop : ∀ p i, kd p = 1 → i < ops.length → W i ≠ [] → befB ops ops.length i p = true ∨ befB ops ops.length p i = true)
  (hval : ∀ i o, ops[i]? = some o → putOK o.dst s ∧ if kd i = 2 then ∃ p, kd p = 1 ∧ p < ops.length ∧ befB ops ops.length p i = true else if kd i = 1 then o.guard = none ∧ StopE P Γ (stW ops T W s M fun j => decide (j < i)) o.op else
    OpGX P s.next ops.toArray (stW ops T W s M fun j => decide (j < i)) o (T i) (W i) (cr i) (R i))
  (hfin : (∀ i, i < ops.length → kd i ≠ 1) → ∃ s', (stW ops T W s M fun _ => true).Eqo s' ∧ R0 .normal s') : VA P Γ ops s R0 := by
 intro K a w hin hs
 have hin0 : In Γ K { w with drawn := w.drawn + 1 } := ⟨hin.le, hin.none0, hin.memNew, hin.fresh, hin.os, hin.tape, hin.output, hin.size, hin.block⟩
 have hs0 : Sim K Γ.own s a { w with drawn := w.drawn + 1 } := ⟨⟨hs.sat.mem, fun i ob hi => by
   obtain ⟨h, h1, h2, h3⟩ := hs.sat.ob i ob hi
   exact ⟨h, h1, h2, h3.keep (.refl _) fun b e => rfl⟩, hs.sat.apart⟩, hs.defers, hs.size, hs.env, hs.hdr⟩
 generalize ({ w with drawn := w.drawn + 1 } : World) = w0 at hin0 hs0
 have key : ∀ (fuel : Nat) (listed : Array Bool) (K : Kr) (a : Act) (w : World), listed.size = ops.length → (listed.toList.filter (! ·)).length ≤ fuel →
   (∀ j y, ops[j]? = some y → listed.getD j false = true → ∀ p ∈ dirPred y, listed.getD p false = true) → In Γ K w → Sim K Γ.own (stW ops T W s M fun j => listed.getD j false) a w →
   (∀ j x, j < ops.length → listed.getD j false = false → cr j = some x → K.hdr x = none) → (∀ p, kd p = 1 → p < ops.length → listed.getD p false = false) →
   wpAny P .any ops.toArray (VPost Γ R0) fuel listed a w := by
  have allDone : ∀ (listed : Array Bool) (K : Kr) (a : Act) (w : World), (∀ p, kd p = 1 → p < ops.length → listed.getD p false = false) → (∀ j, j < ops.length → listed.getD j false = true) → In Γ K w → Sim K Γ.own (stW ops T W s M fun j => listed.getD j false) a w →
    ∃ K' s', In Γ K' w ∧ Sim K' Γ.own s' a w ∧ R0 .normal s' := fun listed K a w hsp hall hin hs => by
   obtain ⟨s', he, hfin⟩ := hfin fun i hi hk => by have h1 := hsp i hk hi; rw [hall i hi] at h1; cases h1
   refine ⟨K, _, hin, Sim.eqo (hs.eqo ?_) he, hfin⟩
   refine ⟨rfl, fun x => ?_, rfl, fun x => ?_⟩
   ·simp only [stW, getK_applyW]
    rw [wlog_congr W _ (fun _ => true) x ops.length fun j hj _ => hall j hj]
   ·exact envF_congr T _ _ x ops 0 s.env s.env rfl fun j o hj _ => by
     have hl := (List.getElem?_eq_some_iff.1 hj).1
     simp only [Nat.zero_add]
     exact hall j hl
  have least : ∀ (listed : Array Bool), listed.size = ops.length → ∀ i, i < ops.length → listed.getD i false = false → ∃ i0, i0 ∈ Region.ready .any ops.toArray listed := fun listed hsz i hi hu => by
   induction i using Nat.strongRecOn with
   | _ i ih =>
    have ho : ops[i]? = some ops[i] := List.getElem?_eq_getElem hi
    by_cases hp : ∀ p ∈ dirPred ops[i], listed.getD p false = true
    ·refine ⟨i, mem_ready.2 ⟨?_, ops[i], by simp, fun e he hb => hp e.on ?_⟩⟩
     ·have hi' : i < listed.size := by omega
      simp [hi'] at hu ⊢
      exact hu
     ·simp only [dirPred, List.mem_map, List.mem_filter]
      exact ⟨e, ⟨by simpa using he, hb⟩, rfl⟩
    ·simp only [Classical.not_forall] at hp
     obtain ⟨p, hpm, hpu⟩ := hp
     have hlt := (ord_pred hord ho).1 p hpm
     exact ih p hlt (by omega) (by simpa using hpu)
  intro fuel
  induction fuel with
  | zero =>
   intro listed K a w hsz hcnt hcl hin hs _ hsp
   have hall : ∀ j, j < ops.length → listed.getD j false = true := fun j hj => by
    have hj' : j < listed.size := by omega
    have h0 : (listed.toList.filter (! ·)) = [] := List.eq_nil_of_length_eq_zero (by omega)
    have := (List.filter_eq_nil_iff.1 h0) listed[j] (by simp)
    simp only [Bool.not_eq_true', Bool.not_eq_false] at this
    simp [hj', this]
   refine ⟨?_, .inl (allDone listed K a w hsp hall hin hs)⟩
   refine List.eq_nil_iff_forall_not_mem.2 fun i hi => ?_
   obtain ⟨h1, o, ho, _⟩ := mem_ready.1 hi
   have hl : i < ops.length := by
    have := (Array.getElem?_eq_some_iff.1 ho).1
    simpa using this
   have := hall i hl
   have hi' : i < listed.size := by omega
   simp [hi'] at h1 this
   rw [h1] at this
   cases this
  | succ fuel ih =>
   intro listed K a w hsz hcnt hcl hin hs hfr hsp
   refine ⟨fun hnil => .inl (allDone listed K a w hsp (fun j hj => ?_) hin hs), fun i hi => ?_⟩
   ·cases hu : listed.getD j false with
    | true => rfl
    | false =>
     obtain ⟨i0, h0⟩ := least listed hsz j hj hu
     rw [hnil] at h0
     cases h0
   ·obtain ⟨hun, o, ho, hall⟩ := mem_ready.1 hi
    have ho' : ops[i]? = some o := by simpa using ho
    have hil := (List.getElem?_eq_some_iff.1 ho').1
    have hil' : i < listed.size := by omega
    have hunf : listed.getD i false = false := by simp [hil'] at hun ⊢; exact hun
    have hpred : ∀ p ∈ dirPred o, listed.getD p false = true := fun p hp => by
     simp only [dirPred, List.mem_map, List.mem_filter] at hp
     obtain ⟨e, ⟨he, hb⟩, rfl⟩ := hp
     exact hall e (by simpa using he) hb
    obtain ⟨hpo, hv⟩ := hval i o ho'
    have bef1 : ∀ j, befB ops ops.length j i = true → listed.getD j false = true := fun j hb => bef_closed hcl _ j i o ho' hpred hb
    have bef2 : ∀ j x, ops[j]? = some x → befB ops ops.length i j = true → listed.getD j false = false := fun j x hj hb => by
     cases hu : listed.getD j false with
     | false => rfl
     | true =>
      have := bef_closed hcl _ i j x hj (hcl j x hj hu) hb
      rw [hunf] at this
      cases this
    have before : ∀ j x, ops[j]? = some x → j < i → meets ops.toArray x o = true ∨ meets ops.toArray o x = true → listed.getD j false = true := fun j x hj hlt hmm =>
     bef1 j ((ord_pred hord ho').2.2 j x hlt hj hmm)
    have behind : ∀ j x, ops[j]? = some x → i < j → meets ops.toArray x o = true ∨ meets ops.toArray o x = true → listed.getD j false = false := fun j x hj hlt hmm =>
     bef2 j x hj ((ord_pred hord hj).2.2 i o hlt ho' hmm.symm)
    have agree : ∀ t, t ∈ o.looksAt ops.toArray → getK (envF T (fun j => listed.getD j false) ops 0 s.env) t = getK (envF T (fun j => decide (j < i)) ops 0 s.env) t := fun t ht => by
     refine envF_congr T _ _ t ops 0 s.env s.env rfl fun j x hj hx => ?_
     simp only [Nat.zero_add]
     have hmm : meets ops.toArray x o = true := by simp [meets, hx, ht]
     rcases Nat.lt_trichotomy j i with h | h | h
     ·rw [before j x hj h (.inl hmm)]; simp [h]
     ·subst h; rw [hunf]; simp
     ·rw [behind j x hj h (.inl hmm)]; simp; omega
    have hopd : ∀ x ∈ o.op.operands, opd (stW ops T W s M fun j => decide (j < i)) x = opd (stW ops T W s M fun j => listed.getD j false) x := fun x hx => by
     cases x with
     | tmp t =>
      simp only [opd, St.at, stW]
      rw [agree t (List.mem_append_left _ (List.mem_filterMap.2 ⟨.tmp t, by simpa using hx, rfl⟩))]
     | _ => rfl
    have hloc : ∀ y ∈ R i, getK (stW ops T W s M fun j => decide (j < i)).obs y = getK (stW ops T W s M fun j => listed.getD j false).obs y := fun y hy => by
     simp only [stW, getK_applyW]
     rw [wlog_congr W (fun j => decide (j < i)) (fun j => listed.getD j false) y ops.length fun j hj hk => ?_]
     rcases Nat.lt_trichotomy j i with h | h | h
     ·have hb : befB ops ops.length j i = true := by
       cases hb : befB ops ops.length j i with
       | true => rfl
       | false => exact absurd hy (((hpair j i h hil hb).1 y hk).1)
      rw [bef1 j hb]
      simp [h]
     ·subst h; rw [hunf]; simp
     ·have hb : befB ops ops.length i j = true := by
       cases hb : befB ops ops.length i j with
       | true => rfl
       | false => exact absurd hy ((hpair i j h hj hb).2 y hk)
      rw [bef2 j _ (List.getElem?_eq_getElem hj) hb]
      simp; omega
    have hlast : ∀ y ∈ keys (W i), ∀ j, j < ops.length → i < j → y ∈ keys (W j) → listed.getD j false = false := fun y hy j hj hlt hk => by
     have hb : befB ops ops.length i j = true := by
      cases hb : befB ops ops.length i j with
      | true => rfl
      | false => exact absurd hk ((hpair i j hlt hj hb).1 y hy).2
     exact bef2 j _ (List.getElem?_eq_getElem hj) hb
    have hS : (fun j => (listed.setIfInBounds i true).getD j false) = fun j => listed.getD j false || j == i := funext fun j => by
     by_cases hji : j = i
     ·subst hji; simp [hil']
     ·simp [Array.getElem?_setIfInBounds_ne (Ne.symm hji), hji]
    have henv : ∀ (x : Nat), o.dst = some x → getK (envF T (fun j => listed.getD j false || j == i) ops 0 s.env) x = some (T i) := fun x hdx =>
     envF_put T _ i x ops 0 s.env i o ho' (by omega) hdx fun j o' hj hlt hd' => by
      rw [Nat.zero_add]
      exact behind j o' hj hlt (.inl (by simp [meets, hd', hdx]))
    have henv' : ∀ (x : Nat), o.dst ≠ some x → getK (envF T (fun j => listed.getD j false || j == i) ops 0 s.env) x = getK (envF T (fun j => listed.getD j false) ops 0 s.env) x := fun x hdx =>
     envF_congr T _ (fun j => listed.getD j false) x ops 0 s.env s.env rfl fun j o' hj hd' => by
      simp only [Nat.zero_add]
      have : j ≠ i := fun e => by subst e; rw [ho'] at hj; cases hj; exact hdx hd'
      simp [this]
    by_cases hk2 : kd i = 2
    ·rw [if_pos hk2] at hv
     obtain ⟨p, hp1, hp2, hp3⟩ := hv
     have := bef1 p hp3
     rw [hsp p hp1 hp2] at this
     cases this
    rw [if_neg hk2] at hv
    by_cases hk1 : kd i = 1
    ·rw [if_pos hk1] at hv
     obtain ⟨hg, hst⟩ := hv
     unfold wpOp
     rw [ho]
     simp only [Region.wanted, hg, if_true]
     refine .inl (hst (stW ops T W s M fun j => listed.getD j false) rfl (fun y => ?_) (fun x hx => (hopd x hx).symm) (Nat.le_refl _) o rfl hg hpo K a w hin hs _ _ (fun _ _ _ _ _ _ h => h.elim) fun ch K' a' w' s' h1 h2 h3 => .inl ⟨K', s', h1, h2, h3⟩)
     simp only [stW, getK_applyW]
     rw [wlog_congr W (fun j => listed.getD j false) (fun j => decide (j < i)) y ops.length fun j hj hk => ?_]
     have hne : W j ≠ [] := fun e => by rw [e] at hk; cases hk
     rcases hstop i j hk1 hj hne with hb | hb
     ·have h1 := bef1 j hb
      have hji : j < i := by
       rcases Nat.lt_trichotomy j i with h | h | h
       ·exact h
       ·subst h; rw [hunf] at h1; cases h1
       ·have := befB_lt hord ho' hb; omega
      rw [h1]; simp [hji]
     ·have h1 := bef2 j _ (List.getElem?_eq_getElem hj) hb
      have hji : ¬ j < i := by have := befB_lt hord (List.getElem?_eq_getElem hj) hb; omega
      rw [h1]; simp [hji]
    rw [if_neg hk1] at hv
    have go : ∀ K' a' w', In Γ K' w' → Sim K' Γ.own (stW ops T W s M fun j => listed.getD j false || j == i) a' w' →
      (∀ j x, j < ops.length → (listed.getD j false || j == i) = false → cr j = some x → K'.hdr x = none) →
      wpAny P .any ops.toArray (VPost Γ R0) fuel (listed.setIfInBounds i true) a' w' := fun K' a' w' h1 h2 h3 => by
     have hS' : ∀ j, (listed.setIfInBounds i true).getD j false = (listed.getD j false || j == i) := fun j => congrFun hS j
     refine ih (listed.setIfInBounds i true) K' a' w' (by simp [hsz]) ?_ (fun j y hj hSj p hp => ?_) h1 (by rw [hS]; exact h2) (fun j x hj hu => h3 j x hj (by rw [← hS']; exact hu)) (fun p hp1 hp2 => by
      rw [hS', hsp p hp1 hp2]
      have : p ≠ i := fun e => hk1 (e ▸ hp1)
      simp [this])
     ·have cnt : ∀ (l : List Bool) (n : Nat), l[n]? = some false → ((l.set n true).filter (! ·)).length + 1 = (l.filter (! ·)).length := by
       intro l
       induction l with
       | nil => intro n h; simp at h
       | cons b l ih =>
               intro n h
               cases n with
               | zero => simp at h; subst h; simp
               | succ n =>
                have := ih n (by simpa using h)
                cases b <;> simp at this ⊢ <;> omega
      have := cnt listed.toList i (by
       rw [Array.getElem?_toList, Array.getElem?_eq_getElem hil']
       simp [hil'] at hunf
       rw [hunf])
      rw [Array.toList_setIfInBounds]
      omega
     ·rw [hS'] at hSj ⊢
      simp only [Bool.or_eq_true, beq_iff_eq] at hSj ⊢
      rcases hSj with hSj | rfl
      ·exact .inl (hcl j y hj hSj p hp)
      ·rw [ho'] at hj
       cases hj
       exact .inl (hpred p hp)
    have next : W i = [] → ∀ K' v w', In Γ K' w' → K.le K' → K'.hdr = K.hdr → Sat K' Γ.own (stW ops T W s M fun j => listed.getD j false).obs w' → Rep K' (T i) v →
      wpAny P .any ops.toArray (VPost Γ R0) fuel (listed.setIfInBounds i true) (a.put o.dst v) w' := fun hW K' v w' h1 h2 h3 h4 h5 => by
     refine go K' _ w' h1 ?_ fun j x hj hu hc => by
      rw [h3]
      simp only [Bool.or_eq_false_iff] at hu
      exact hfr j x hj hu.1 hc
     have hdef : (a.put o.dst v).defers = Γ.own.dfr := by cases o.dst <;> exact hs.defers
     have hsize : (a.put o.dst v).tmps.size = s.n := by
      have hsz2 : a.tmps.size = s.n := hs.size
      cases o.dst <;> simp [Act.put, hsz2]
     refine ⟨h4.eqo fun y => ?_, hdef, hsize, fun x d hx => ?_, fun j hj => by rw [h3]; exact hs.hdr j hj⟩
     ·simp only [stW, getK_applyW]
      rw [wlog_congr W (fun j => listed.getD j false) (fun j => listed.getD j false || j == i) y ops.length fun j hj hk => ?_]
      by_cases hji : j = i
      ·subst hji; rw [hW] at hk; cases hk
      ·simp [hji]
     ·simp only [stW] at hx
      by_cases hdx : o.dst = some x
      ·rw [henv x hdx] at hx
       cases hx
       have hlt : x < s.n := by rw [hdx] at hpo; exact hpo
       refine ⟨hlt, ?_⟩
       have hsz' : a.tmps.size = s.n := hs.size
       rw [hdx]
       simpa [Act.put, hsz', hlt] using h5
      ·rw [henv' x hdx] at hx
       obtain ⟨g1, g2⟩ := hs.env x d hx
       refine ⟨g1, ?_⟩
       have e : (a.put o.dst v).tmps.getD x undef = a.tmps.getD x undef := by
               cases hd : o.dst with
               | none => rfl
               | some y =>
                have hne : y ≠ x := fun e => hdx (by rw [hd, e])
                simp [Act.put, Array.getElem?_setIfInBounds_ne hne]
       rw [e]
       exact g2.mono h2
    unfold wpOp
    rw [ho]
    simp only
    have two : (Region.wanted o (yielded ops.toArray a.tmps) = true ∧ Op1X P s.next (stW ops T W s M fun j => decide (j < i)) o.op o.dst (T i) (W i) (cr i) (R i)) ∨ (Region.wanted o (yielded ops.toArray a.tmps) = false ∧ T i = .un ∧ W i = []) := by
     unfold OpGX at hv
     split at hv
     ·rename_i hg
      exact .inl ⟨by simp [Region.wanted, hg], hv⟩
     ·rename_i j want hg
      obtain ⟨t, ht, hv⟩ := hv
      have lift : ∀ dd, getK (stW ops T W s M fun j => decide (j < i)).env t = some dd → getK (stW ops T W s M fun j => listed.getD j false).env t = some dd := fun dd hb => by
       simp only [stW] at hb ⊢
       rw [agree t (by
               refine List.mem_append_right _ ?_
               unfold guardTmp at ht
               simp only [hg]
               rw [ht]
               simp)]
       exact hb
      rcases hv with ⟨b, hb, hv⟩ | ⟨hb, hv⟩
      ·have hb' := lift _ hb
       obtain ⟨hlt, hr⟩ := hs.getK hb'
       have hbv := rep_bool hr
       have hyd : yielded ops.toArray a.tmps j = some b := by
               unfold yielded
               unfold guardTmp at ht
               rw [ht]
               simp only [Option.bind_some]
               have : a.tmps[t]? = some (.bool b) := by
                rw [Array.getElem?_eq_getElem hlt]
                simp [hlt] at hbv
                rw [hbv]
               rw [this]
       by_cases hbw : b = want
       ·rw [if_pos hbw] at hv
        exact .inl ⟨by simp [Region.wanted, hg, hyd, hbw], hv⟩
       ·rw [if_neg hbw] at hv
        exact .inr ⟨by simp [Region.wanted, hg, hyd, hbw], hv.1, hv.2.1⟩
      ·have hb' := lift _ hb
       obtain ⟨hlt, hr⟩ := hs.getK hb'
       have hbv := rep_oth hr
       have hyd : yielded ops.toArray a.tmps j = none := by
               unfold yielded
               unfold guardTmp at ht
               rw [ht]
               simp only [Option.bind_some]
               have : a.tmps[t]? = some undef := by
                rw [Array.getElem?_eq_getElem hlt]
                simp [hlt] at hbv
                rw [hbv]
               rw [this]
               try rfl
       exact .inr ⟨by simp [Region.wanted, hg, hyd], hv.1, hv.2.1⟩
    rcases two with ⟨hw, hv⟩ | ⟨hw, hv⟩
    ·rw [if_pos hw]
     let un : Nat → Prop := fun y => ∃ j, j < ops.length ∧ (listed.getD j false || j == i) = false ∧ cr j = some y
     let ρ : Nat → Nat := fun y => open Classical in if cr i = some y then M else if un y then M + 1 + y else y
     have hknown : ∀ y h, K.hdr y = some h → ρ y = y ∧ y < M := fun y h hy => by
      have h1 : cr i ≠ some y := fun e => by rw [hfr i y hil hunf e] at hy; cases hy
      have h2 : ¬ un y := fun ⟨j, hj, hu, hc⟩ => by
       simp only [Bool.or_eq_false_iff] at hu
       rw [hfr j y hj hu.1 hc] at hy
       cases hy
      refine ⟨by simp only [ρ]; rw [if_neg h1, if_neg h2], ?_⟩
      rcases Nat.lt_or_ge y M with h | h
      ·exact h
      ·rw [hs.hdr y h] at hy; cases hy
     have hobs : ∀ y ob, getK (stW ops T W s M fun j => listed.getD j false).obs y = some ob → (ρ y = y ∧ y < M) ∧ ob.all (Good ρ M) := fun y ob hy => by
      have hok := hs.sat.ob y ob hy
      obtain ⟨h, h1, _⟩ := hok
      exact ⟨hknown y h h1, (hs.sat.ob y ob hy).good hknown⟩
     have hρs0 : ∀ y, y < s.next → ρ y = y := fun y hy => by
      have c1 : cr i ≠ some y := fun e => by have := (hcr i y e).1; omega
      have c2 : ¬ un y := fun ⟨j, _, _, hc⟩ => by have := (hcr j y hc).1; omega
      simp only [ρ]
      rw [if_neg c1, if_neg c2]
     have mk : ∀ e' : ERes, (∀ p ∈ e'.U, ∀ ob, p.2 = some ob → ob.all (Good ρ M) ∧ ∃ o, getK (stW ops T W s M fun j => listed.getD j false).obs p.1 = some o) → (∀ ob, e'.nw = some ob → ob.all (Good ρ M)) →
       (match e'.nw with | none => o.dst = none ∧ W i = e'.U ∧ cr i = none | some ob => ∃ x, cr i = some x ∧ W i = (x, some ob) :: e'.U ∧ T i = mkD e'.how x) →
       ∀ K' a' w', In Γ K' w' → Sim K' Γ.own ((stW ops T W s M fun j => listed.getD j false).effS e' o.dst) a' w' → wpAny P .any ops.toArray (VPost Γ R0) fuel (listed.setIfInBounds i true) a' w' := by
      intro e' hgU hgN hcase K' a' w' h1 h2
      have hle : St.Le Γ.n0 ρ ((stW ops T W s M fun j => listed.getD j false).effS e' o.dst) (stW ops T W s M fun j => listed.getD j false || j == i) := by
       have hWi : ∀ y, y ∈ keys (W i) → getK (wlog W (fun j => listed.getD j false || j == i) ops.length) y = getK (W i) y := fun y hy =>
               wlog_put W _ i y hy ops.length hil fun j hj hlt hk => hlast y hy j hj hlt hk
       have hWn : ∀ y, y ∉ keys (W i) → getK (wlog W (fun j => listed.getD j false || j == i) ops.length) y = getK (wlog W (fun j => listed.getD j false) ops.length) y := fun y hy =>
               wlog_congr W _ _ y ops.length fun j hj hk => by
                by_cases hji : j = i
                ·subst hji; exact absurd hk hy
                ·simp [hji]
       have hinj : ∀ y1 y2, y1 < M → y2 < M → ρ y1 = ρ y2 → y1 = y2 := fun y1 y2 g1 g2 hr => by
               simp only [ρ] at hr
               by_cases c1 : cr i = some y1 <;> by_cases c2 : cr i = some y2
               ·rw [c1] at c2; cases c2; rfl
               ·rw [if_pos c1, if_neg c2] at hr
                split at hr <;> omega
               ·rw [if_neg c1, if_pos c2] at hr
                split at hr <;> omega
               ·rw [if_neg c1, if_neg c2] at hr
                split at hr <;> split at hr <;> omega
       have hobs2 : ∀ y ob', getK (stW ops T W s M fun j => listed.getD j false || j == i).obs y = some ob' → y < M ∧
                ∃ ob, getK ((stW ops T W s M fun j => listed.getD j false).effS e' o.dst).obs (ρ y) = some ob ∧ Ob.le ρ ob ob' ∧ ob'.under M = true := fun y ob' hy => by
               simp only [stW, getK_applyW] at hy
               cases hn : e'.nw with
               | none =>
                rw [hn] at hcase
                obtain ⟨hd0, hWU, hcn⟩ := hcase
                have hob : ∀ z, getK ((stW ops T W s M fun j => listed.getD j false).effS e' o.dst).obs z = match getK (W i) z with | some x => x | none => getK (stW ops T W s M fun j => listed.getD j false).obs z := fun z => by
                 simp only [St.effS, hn, getK_applyW, hWU]
                 try rfl
                by_cases hk : y ∈ keys (W i)
                ·rw [hWi y hk] at hy
                 obtain ⟨x, hx⟩ := getK_isKey (W i) y hk
                 rw [hx] at hy
                 simp only at hy
                 subst hy
                 have hmem : (y, some ob') ∈ e'.U := by
                  rw [← hWU]
                  have : ∀ (l : Wr), getK l y = some (some ob') → (y, some ob') ∈ l := by
                   intro l
                   induction l with
                   | nil => intro h; cases h
                   | cons p l ih =>
                    obtain ⟨k', d'⟩ := p
                    intro h
                    rw [getK_cons] at h
                    by_cases hyk : y = k'
                    ·rw [if_pos hyk] at h; cases h; subst hyk; simp
                    ·rw [if_neg hyk] at h; exact List.mem_cons_of_mem _ (ih h)
                  exact this _ hx
                 obtain ⟨hga, o0, ho0⟩ := hgU _ hmem ob' rfl
                 obtain ⟨⟨hr, hlt⟩, _⟩ := hobs y o0 ho0
                 refine ⟨hlt, ob', ?_, (Ob.all_le hga).1, (Ob.all_le hga).2⟩
                 rw [hr, hob, hx]
                ·rw [hWn y hk] at hy
                 obtain ⟨⟨hr, hlt⟩, hga⟩ := hobs y ob' (by simp only [stW, getK_applyW]; exact hy)
                 refine ⟨hlt, ob', ?_, (Ob.all_le hga).1, (Ob.all_le hga).2⟩
                 rw [hr, hob, getK_keys (W i) y hk]
                 simp only [stW, getK_applyW]
                 exact hy
               | some nb =>
                rw [hn] at hcase
                obtain ⟨x0, hcx, hWU, hTi⟩ := hcase
                have hx0 := hcr i x0 hcx
                have hob : ∀ z, z ≠ M → getK ((stW ops T W s M fun j => listed.getD j false).effS e' o.dst).obs z = match getK e'.U z with | some x => x | none => getK (stW ops T W s M fun j => listed.getD j false).obs z := fun z hz => by
                 have : ∀ (q : St) (d : D), (q.put o.dst d).obs = q.obs := fun q d => by cases o.dst <;> rfl
                 simp only [St.effS, hn, this, getK_cons]
                 rw [if_neg (by simpa [stW] using hz), getK_applyW]
                 try rfl
                have hobM : getK ((stW ops T W s M fun j => listed.getD j false).effS e' o.dst).obs M = some nb := by
                 have : ∀ (q : St) (d : D), (q.put o.dst d).obs = q.obs := fun q d => by cases o.dst <;> rfl
                 simp only [St.effS, hn, this, getK_cons]
                 rw [if_pos (by simp [stW])]
                by_cases hyx : y = x0
                ·subst hyx
                 have hk : y ∈ keys (W i) := by rw [hWU]; simp [keys]
                 rw [hWi y hk, hWU, getK_cons, if_pos rfl] at hy
                 simp only at hy
                 cases hy
                 have hga := hgN ob' hn
                 refine ⟨hx0.2, ob', ?_, (Ob.all_le hga).1, (Ob.all_le hga).2⟩
                 simp only [ρ]
                 rw [if_pos hcx]
                 exact hobM
                ·by_cases hk : y ∈ keys (W i)
                 ·rw [hWi y hk, hWU, getK_cons, if_neg hyx] at hy
                  have hk' : y ∈ e'.U.map (·.1) := by
                   rw [hWU] at hk
                   simp only [keys, List.map_cons, List.mem_cons] at hk
                   exact hk.resolve_left hyx
                  obtain ⟨x, hx⟩ := getK_isKey e'.U y hk'
                  rw [hx] at hy
                  simp only at hy
                  subst hy
                  have hmem : (y, some ob') ∈ e'.U := by
                   have : ∀ (l : Wr), getK l y = some (some ob') → (y, some ob') ∈ l := by
                    intro l
                    induction l with
                    | nil => intro h; cases h
                    | cons p l ih =>
                     obtain ⟨k', d'⟩ := p
                     intro h
                     rw [getK_cons] at h
                     by_cases hyk : y = k'
                     ·rw [if_pos hyk] at h; cases h; subst hyk; simp
                     ·rw [if_neg hyk] at h; exact List.mem_cons_of_mem _ (ih h)
                   exact this _ hx
                  obtain ⟨hga, o0, ho0⟩ := hgU _ hmem ob' rfl
                  obtain ⟨⟨hr, hlt⟩, _⟩ := hobs y o0 ho0
                  refine ⟨hlt, ob', ?_, (Ob.all_le hga).1, (Ob.all_le hga).2⟩
                  rw [hr, hob y (by omega), hx]
                 ·rw [hWn y hk] at hy
                  obtain ⟨⟨hr, hlt⟩, hga⟩ := hobs y ob' (by simp only [stW, getK_applyW]; exact hy)
                  refine ⟨hlt, ob', ?_, (Ob.all_le hga).1, (Ob.all_le hga).2⟩
                  have hk' : y ∉ e'.U.map (·.1) := by
                   rw [hWU] at hk
                   simp only [keys, List.map_cons, List.mem_cons, not_or] at hk
                   exact hk.2
                  rw [hr, hob y (by omega), getK_keys e'.U y hk']
                  simp only [stW, getK_applyW]
                  exact hy
       have henv2 : ∀ x d', getK (stW ops T W s M fun j => listed.getD j false || j == i).env x = some d' →
                (D.le ρ (((stW ops T W s M fun j => listed.getD j false).effS e' o.dst).at x) d' ∧ d'.under M = true) ∧ x < s.n := fun x d' hx => by
               simp only [stW] at hx
               by_cases hdx : o.dst = some x
               ·rw [henv x hdx] at hx
                cases hx
                have hlt : x < s.n := by rw [hdx] at hpo; exact hpo
                cases hn : e'.nw with
                | none =>
                 rw [hn] at hcase
                 rw [hcase.1] at hdx
                 cases hdx
                | some nb =>
                 rw [hn] at hcase
                 obtain ⟨x0, hcx, hWU, hTi⟩ := hcase
                 have hx0 := hcr i x0 hcx
                 have hρ : ρ x0 = M := by simp only [ρ]; rw [if_pos hcx]
                 refine ⟨⟨.inr (.inl ?_), ?_⟩, hlt⟩
                 ·rw [hTi]
                  simp only [St.effS, hn, hdx, St.put, St.at, getK_cons, if_true, Option.getD_some]
                  cases e'.how <;> simp [mkD, D.ren, hρ, stW]
                 ·rw [hTi]
                  cases e'.how <;> simp [mkD, D.under, hx0.2]
               ·rw [henv' x hdx] at hx
                obtain ⟨g1, g2⟩ := hs.env x d' hx
                have hgd := g2.good hknown
                have hat : ((stW ops T W s M fun j => listed.getD j false).effS e' o.dst).at x = d' := by
                 have : ∀ (q : St) (d : D), getK (q.put o.dst d).env x = getK q.env x := fun q d => by
                  cases hd : o.dst with
                  | none => rfl
                  | some y =>
                   have hne : ¬ x = y := fun e => hdx (by rw [hd, e])
                   simp only [St.put, getK_cons, if_neg hne]
                 simp only [St.at, St.effS]
                 cases hn : e'.nw with
                 | none => simp only [stW, hx]; rfl
                 | some nb => simp only [this, stW, hx]; rfl
                rw [hat]
                exact ⟨⟨.inr (.inl hgd.1.symm), hgd.2⟩, g1⟩
       refine ⟨?_, fun x d' hx => (henv2 x d' hx).1, fun x d' hx => ?_, hobs2, fun y1 y2 o1 o2 g1 g2 hr => hinj y1 y2 (hobs2 y1 o1 g1).1 (hobs2 y2 o2 g2).1 hr, fun j hj => ?_⟩
       ·have : ∀ (q : St) (d : D), (q.put o.dst d).n = q.n := fun q d => by cases o.dst <;> rfl
        simp only [St.effS]
        cases e'.nw <;> simp only [this] <;> rfl
       ·have : ∀ (q : St) (d : D), (q.put o.dst d).n = q.n := fun q d => by cases o.dst <;> rfl
        have e2 : ((stW ops T W s M fun j => listed.getD j false).effS e' o.dst).n = s.n := by
         simp only [St.effS]
         cases e'.nw <;> simp only [this] <;> rfl
        rw [e2]
        exact (henv2 x d' hx).2
       ·have c1 : cr i ≠ some j := fun e => by have := (hcr i j e).1; omega
        have c2 : ¬ un j := fun ⟨q, _, _, hc⟩ => by have := (hcr q j hc).1; omega
        refine ⟨by simp only [ρ]; rw [if_neg c1, if_neg c2], ?_⟩
        show j < M
        omega
      obtain ⟨g1, g2⟩ := Sim.weak h1 h2 hle
      refine go _ a' w' g1 g2 fun j x hj hu hc => ?_
      simp only [Kr.ren]
      split
      ·have c1 : cr i ≠ some x := fun e => by
               have := hcr1 i j x e hc
               subst this
               simp at hu
       have c2 : un x := ⟨j, hj, hu, hc⟩
       simp only [ρ]
       rw [if_neg c1, if_pos c2]
       refine h2.hdr _ ?_
       have : ∀ (q : St) (d : D), (q.put o.dst d).next = q.next := fun q d => by cases o.dst <;> rfl
       simp only [St.effS]
       cases e'.nw <;> simp only [this, stW] <;> omega
      ·rfl
     rcases hv with (⟨hv, hW, hcn, hR⟩ | ⟨e, he, hR, hcase⟩) | ⟨⟨fop, args, f, caps, O, O', L, hco, hcf, hcb, hR, hkW, hWg, hsm, hO, hnd, ⟨hdu, hOu⟩, hret⟩, hcn⟩ | ⟨fop, args, f, caps, O, e, nb, x0, hco, hcf, hcb, hR, ⟨heU, heN, hnu⟩, hcx, hO, hret⟩
     ·replace hv := valD_loc (s := stW ops T W s M fun j => decide (j < i)) (s' := stW ops T W s M fun j => listed.getD j false) (by rw [← hR]; exact hloc) hopd hv
      exact .inl (valD_run hv hin hs fun K' v w' h1 h2 h3 h4 h5 => next hW K' v w' h1 h2 h3 h4 h5)
     ·
      replace he := effD_loc (s := stW ops T W s M fun j => decide (j < i)) (s' := stW ops T W s M fun j => listed.getD j false) (by rw [← hR]; exact hloc) hopd he
      have hgood := effD_all (g := Good ρ M) (fun _ => ⟨by simp [D.ren], by simp [D.under]⟩) (fun cs h => h.agg) he (fun x hx => (opd_rep hs x).good hknown) (fun y ob hy => (hobs y ob hy).2)
      obtain ⟨e', he', ⟨rfl, hgU, hgN⟩⟩ := Lin.effD.2 _ hgood
      have he2 : effD P (stW ops T W s M fun j => listed.getD j false) o.op fun e => putOK o.dst (stW ops T W s M fun j => listed.getD j false) ∧ (e.nw = none → o.dst = none) ∧
               ((stW ops T W s M fun j => listed.getD j false).effS e o.dst) = (stW ops T W s M fun j => listed.getD j false).effS e' o.dst :=
       Lin.effD.1 _ _ (fun e hee => by
               subst hee
               refine ⟨hpo, fun hn => ?_, rfl⟩
               rw [hn] at hcase
               exact hcase.1) he
      refine .inl (hstep_effG (k := fun s' => s' = (stW ops T W s M fun j => listed.getD j false).effS e' o.dst) (effD_hstep he2) K a w hin hs _ _ (fun K' a' w' s' h1 h2 h3 => ?_) fun ch K' a' w' s' h1 h2 h3 => .inl ⟨K', s', h1, h2, h3⟩)
      have h3' : s' = _ := h3
      subst h3'
      exact mk e' hgU hgN hcase K' a' w' h1 h2
     ·
      let un : Nat → Prop := fun y => ∃ j, j < ops.length ∧ (listed.getD j false || j == i) = false ∧ cr j = some y
      let ρ : Nat → Nat := fun y => open Classical in if un y then M + 1 + y else y
      have hρs : ∀ y, y < s.next → ρ y = y := fun y hy => by
       have : ¬ un y := fun ⟨j, _, _, hc⟩ => by have := (hcr j y hc).1; omega
       simp only [ρ]; rw [if_neg this]
      have hknown : ∀ y h, K.hdr y = some h → ρ y = y ∧ y < M := fun y h hy => by
       have h2 : ¬ un y := fun ⟨j, hj, hu, hc⟩ => by
               simp only [Bool.or_eq_false_iff] at hu
               rw [hfr j y hj hu.1 hc] at hy
               cases hy
       refine ⟨by simp only [ρ]; rw [if_neg h2], ?_⟩
       rcases Nat.lt_or_ge y M with h | h
       ·exact h
       ·rw [hs.hdr y h] at hy; cases hy
      have hobs : ∀ y ob, getK (stW ops T W s M fun j => listed.getD j false).obs y = some ob → (ρ y = y ∧ y < M) ∧ ob.all (Good ρ M) := fun y ob hy => by
       have hok := hs.sat.ob y ob hy
       obtain ⟨h, h1, _⟩ := hok
       exact ⟨hknown y h h1, (hs.sat.ob y ob hy).good hknown⟩
      have hOact : ∀ p ∈ O, getK (stW ops T W s M fun j => listed.getD j false).obs p.1 = some p.2 := fun p hp => by
       rw [← hloc p.1 (by rw [hR]; exact List.mem_map.2 ⟨p, hp, rfl⟩)]
       exact hO p hp
      have hOget : ∀ y ob, getK O y = some ob → getK (stW ops T W s M fun j => listed.getD j false).obs y = some ob := fun y ob h => hOact _ (getK_memK h)
      let F := (stW ops T W s M fun j => listed.getD j false).obs.filter fun p => !(O.map (·.1)).contains p.1
      have hFg : ∀ y, getK F y = if (O.map (·.1)).contains y = true then none else getK (stW ops T W s M fun j => listed.getD j false).obs y := fun y => getK_filterN _ _ y
      have hOn : ∀ y, ¬ (O.map (·.1)).contains y = true → getK O y = none := fun y h => getK_keys O y (by simpa using h)
      have heq : ∀ y, getK (stW ops T W s M fun j => listed.getD j false).obs y = getK (F ++ O) y := fun y => by
       rw [getK_append, hFg]
       by_cases hy : (O.map (·.1)).contains y = true
       ·rw [if_pos hy]
        obtain ⟨x, hx⟩ := getK_isSome (l := O) (y := y) (by simpa using hy)
        rw [hx, hOget y x hx]
       ·rw [if_neg hy, hOn y hy]
        cases getK (stW ops T W s M fun j => listed.getD j false).obs y <;> rfl
      have hF : ∀ y ob, getK F y = some ob → getK O y = none := fun y ob h => by
       rw [hFg] at h
       by_cases hy : (O.map (·.1)).contains y = true
       ·rw [if_pos hy] at h; cases h
       ·exact hOn y hy
      have hopdS : ∀ x, x ∈ fop :: args → opd (stW ops T W s M fun j => listed.getD j false) x = opd (stW ops T W s M fun j => decide (j < i)) x := fun x hx => (hopd x (by
       rcases o with ⟨odst, oop, ot, opos, oaf, og⟩
       unfold callOf at hco
       split at hco
       ·rename_i c hop
        simp only at hop
        subst hop
        split at hco
        ·cases hco
         rename_i f' hcal
         simp only [Op.operands, Call.operands, hcal]
         simp only [List.mem_cons] at hx
         simp
         rcases hx with rfl | hx
         ·exact .inl rfl
         ·exact .inr (by simpa using hx)
        ·cases hco
       ·cases hco)).symm
      have hcall : CallP P Γ fop args o.dst (stW ops T W s M fun j => listed.getD j false) fun s' => ∃ o1, (∀ y, getK o1 y = getK O' y) ∧ s' = (({ (stW ops T W s M fun j => listed.getD j false) with obs := F ++ o1, next := M } : St).put o.dst (T i)) :=
       CallP.xF F O (hret M (Nat.le_refl _)) heq hF (by rw [hopdS fop (by simp)]; exact hcf) hcb (by rw [List.map_congr_left fun x hx => hopdS x (by simp [hx])]) hpo
               (fun d o1 nx' _ ⟨h1, h2, h3⟩ => ⟨o1, h2, by cases h1; rw [h3]⟩) (fun ch o1 nx' _ ⟨h1, _⟩ => by cases h1)
      have heff : EffP P Γ o (stW ops T W s M fun j => listed.getD j false) fun s' => ∃ o1, (∀ y, getK o1 y = getK O' y) ∧ s' = (({ (stW ops T W s M fun j => listed.getD j false) with obs := F ++ o1, next := M } : St).put o.dst (T i)) := by
       have e := hcall
       rcases o with ⟨odst, oop, ot, opos, oaf, og⟩
       unfold callOf at hco
       split at hco
       ·rename_i c hop
        simp only at hop
        subst hop
        split at hco
        ·cases hco
         rename_i f' hcal
         obtain ⟨cal, cargs, cts⟩ := c
         simp only at hcal
         subst hcal
         exact EffP.guard (e cts ot opos oaf)
        ·cases hco
       ·cases hco
      refine .inl (heff K a w hin hs _ _ (fun K' a' w' s' h1 h2 h3 => ?_) fun ch K' a' w' s' h1 h2 h3 => .inl ⟨K', s', h1, h2, h3⟩)
      obtain ⟨o1, ho1, rfl⟩ := h3
      have hWi : ∀ y, y ∈ keys (W i) → getK (wlog W (fun j => listed.getD j false || j == i) ops.length) y = getK (W i) y := fun y hy =>
       wlog_put W _ i y hy ops.length hil fun j hj hlt hk => hlast y hy j hj hlt hk
      have hWn : ∀ y, y ∉ keys (W i) → getK (wlog W (fun j => listed.getD j false || j == i) ops.length) y = getK (wlog W (fun j => listed.getD j false) ops.length) y := fun y hy =>
       wlog_congr W _ _ y ops.length fun j hj hk => by
               by_cases hji : j = i
               ·subst hji; exact absurd hk hy
               ·simp [hji]
      have pobs : ∀ (q : St) (d : D), (q.put o.dst d).obs = q.obs := fun q d => by cases o.dst <;> rfl
      have pn : ∀ (q : St) (d : D), (q.put o.dst d).n = q.n := fun q d => by cases o.dst <;> rfl
      have pnext : ∀ (q : St) (d : D), (q.put o.dst d).next = q.next := fun q d => by cases o.dst <;> rfl
      have hobs2 : ∀ y ob', getK (stW ops T W s M fun j => listed.getD j false || j == i).obs y = some ob' → y < M ∧
               ∃ ob, getK (({ (stW ops T W s M fun j => listed.getD j false) with obs := F ++ o1, next := M } : St).put o.dst (T i)).obs (ρ y) = some ob ∧ Ob.le ρ ob ob' ∧ ob'.under M = true := fun y ob' hy => by
       rw [pobs]
       simp only [stW, getK_applyW] at hy
       by_cases hk : y ∈ keys (W i)
       ·rw [hWi y hk, hWg y hk] at hy
        have hyO : y ∈ O.map (·.1) := ((hkW y).1 hk).2
        obtain ⟨x0, hx0⟩ := getK_isSome (l := O) (y := y) hyO
        obtain ⟨⟨hr, hlt⟩, _⟩ := hobs y x0 (hOget y x0 hx0)
        cases hq : getK O' y with
        | none =>
         rw [hq] at hy
         simp at hy
        | some ob =>
         rw [hq] at hy
         have hy : ob = ob' := by simpa using hy
         subst hy
         have hga := ob_good_under (M := M) hρs hM (hOu _ (getK_memK hq))
         refine ⟨hlt, ob, ?_, (Ob.all_le hga).1, (Ob.all_le hga).2⟩
         rw [hr, getK_append, hFg, if_pos (by simpa using hyO), ho1 y, hq]
       ·rw [hWn y hk] at hy
        obtain ⟨⟨hr, hlt⟩, hga⟩ := hobs y ob' (by simp only [stW, getK_applyW]; exact hy)
        refine ⟨hlt, ob', ?_, (Ob.all_le hga).1, (Ob.all_le hga).2⟩
        by_cases hyO : (O.map (·.1)).contains y = true
        ·have hL : L.contains y = false := by
          cases hL : L.contains y with
          | false => rfl
          | true => exact absurd ((hkW y).2 ⟨hL, by simpa using hyO⟩) hk
         obtain ⟨x0, hx0⟩ := getK_isSome (l := O) (y := y) (by simpa using hyO)
         have hx1 := hOget y x0 hx0
         simp only [stW, getK_applyW] at hx1
         rw [hy] at hx1
         rw [hr, getK_append, hFg, if_pos hyO, ho1 y, hsm y hL, hx0]
         exact hx1.symm
        ·rw [hr, getK_append, hFg, if_neg hyO]
         simp only [stW, getK_applyW]
         rw [hy]
      have henv2 : ∀ x d', getK (stW ops T W s M fun j => listed.getD j false || j == i).env x = some d' →
               (D.le ρ ((({ (stW ops T W s M fun j => listed.getD j false) with obs := F ++ o1, next := M } : St).put o.dst (T i)).at x) d' ∧ d'.under M = true) ∧ x < s.n := fun x d' hx => by
       simp only [stW] at hx
       by_cases hdx : o.dst = some x
       ·rw [henv x hdx] at hx
        cases hx
        have hlt : x < s.n := by rw [hdx] at hpo; exact hpo
        have hg := good_under (M := M) hρs hM hdu
        refine ⟨⟨.inr (.inl ?_), hg.2⟩, hlt⟩
        simp only [hdx, St.put, St.at, getK_cons, if_true, Option.getD_some]
        exact hg.1.symm
       ·rw [henv' x hdx] at hx
        obtain ⟨g1, g2⟩ := hs.env x d' hx
        have hgd := g2.good hknown
        have hat : (({ (stW ops T W s M fun j => listed.getD j false) with obs := F ++ o1, next := M } : St).put o.dst (T i)).at x = d' := by
         have : ∀ (q : St) (d : D), getK (q.put o.dst d).env x = getK q.env x := fun q d => by
          cases hd : o.dst with
          | none => rfl
          | some y =>
           have hne : ¬ x = y := fun e => hdx (by rw [hd, e])
           simp only [St.put, getK_cons, if_neg hne]
         simp only [St.at, this, stW, hx]
         try rfl
        rw [hat]
        exact ⟨⟨.inr (.inl hgd.1.symm), hgd.2⟩, g1⟩
      have hinj : ∀ y1 y2, y1 < M → y2 < M → ρ y1 = ρ y2 → y1 = y2 := fun y1 y2 g1 g2 hr => by
       simp only [ρ] at hr
       split at hr <;> split at hr <;> omega
      have hle : St.Le Γ.n0 ρ (({ (stW ops T W s M fun j => listed.getD j false) with obs := F ++ o1, next := M } : St).put o.dst (T i)) (stW ops T W s M fun j => listed.getD j false || j == i) := by
       refine ⟨by rw [pn]; rfl, fun x d' hx => (henv2 x d' hx).1, fun x d' hx => by rw [pn]; exact (henv2 x d' hx).2, hobs2, fun y1 y2 o1 o2 g1 g2 hr => hinj y1 y2 (hobs2 y1 o1 g1).1 (hobs2 y2 o2 g2).1 hr, fun j hj => ⟨hρs j (by omega), ?_⟩⟩
       show j < M
       omega
      obtain ⟨g1, g2⟩ := Sim.weak h1 h2 hle
      refine go _ a' w' g1 g2 fun j x hj hu hc => ?_
      simp only [Kr.ren]
      split
      ·have c2 : un x := ⟨j, hj, hu, hc⟩
       simp only [ρ]
       rw [if_pos c2]
       refine h2.hdr _ ?_
       rw [pnext]
       show M ≤ M + 1 + x
       omega
      ·rfl
     ·
      have hOact : ∀ p ∈ O, getK (stW ops T W s M fun j => listed.getD j false).obs p.1 = some p.2 := fun p hp => by
       rw [← hloc p.1 (by rw [hR]; exact List.mem_map.2 ⟨p, hp, rfl⟩)]
       exact hO p hp
      have hOget : ∀ y ob, getK O y = some ob → getK (stW ops T W s M fun j => listed.getD j false).obs y = some ob := fun y ob h => hOact _ (getK_memK h)
      let F := (stW ops T W s M fun j => listed.getD j false).obs.filter fun p => !(O.map (·.1)).contains p.1
      have hFg : ∀ y, getK F y = if (O.map (·.1)).contains y = true then none else getK (stW ops T W s M fun j => listed.getD j false).obs y := fun y => getK_filterN _ _ y
      have hOn : ∀ y, ¬ (O.map (·.1)).contains y = true → getK O y = none := fun y h => getK_keys O y (by simpa using h)
      have heq : ∀ y, getK (stW ops T W s M fun j => listed.getD j false).obs y = getK (F ++ O) y := fun y => by
       rw [getK_append, hFg]
       by_cases hy : (O.map (·.1)).contains y = true
       ·rw [if_pos hy]
        obtain ⟨x, hx⟩ := getK_isSome (l := O) (y := y) (by simpa using hy)
        rw [hx, hOget y x hx]
       ·rw [if_neg hy, hOn y hy]
        cases getK (stW ops T W s M fun j => listed.getD j false).obs y <;> rfl
      have hF : ∀ y ob, getK F y = some ob → getK O y = none := fun y ob h => by
       rw [hFg] at h
       by_cases hy : (O.map (·.1)).contains y = true
       ·rw [if_pos hy] at h; cases h
       ·exact hOn y hy
      have hopdS : ∀ x, x ∈ fop :: args → opd (stW ops T W s M fun j => listed.getD j false) x = opd (stW ops T W s M fun j => decide (j < i)) x := fun x hx => (hopd x (by
       rcases o with ⟨odst, oop, ot, opos, oaf, og⟩
       unfold callOf at hco
       split at hco
       ·rename_i c hop
        simp only at hop
        subst hop
        split at hco
        ·cases hco
         rename_i f' hcal
         simp only [Op.operands, Call.operands, hcal]
         simp only [List.mem_cons] at hx
         simp
         rcases hx with rfl | hx
         ·exact .inl rfl
         ·exact .inr (by simpa using hx)
        ·cases hco
       ·cases hco)).symm
      have hMn : getK (stW ops T W s M fun j => listed.getD j false).obs M = none := by
       cases hq : getK (stW ops T W s M fun j => listed.getD j false).obs M with
       | none => rfl
       | some ob =>
               obtain ⟨h, h1, _⟩ := hs.sat.ob M ob hq
               rw [hs.hdr M (Nat.le_refl _)] at h1
               cases h1
      have hcall : CallP P Γ fop args o.dst (stW ops T W s M fun j => listed.getD j false) fun s' => ∃ o1, (∀ y, getK o1 y = getK ((M, nb) :: O) y) ∧ s' = (({ (stW ops T W s M fun j => listed.getD j false) with obs := F ++ o1, next := M + 1 } : St).put o.dst (mkD e.how M)) :=
       CallP.xF F O (hret M (by first | exact Nat.le_refl _ | exact hM)) heq hF (by rw [hopdS fop (by simp)]; exact hcf) hcb (by rw [List.map_congr_left fun x hx => hopdS x (by simp [hx])]) hpo
               (fun d o1 nx' _ ⟨h1, h2, h3⟩ => ⟨o1, h2, by cases h1; rw [h3]⟩) (fun ch o1 nx' _ ⟨h1, _⟩ => by cases h1)
      have heff : EffP P Γ o (stW ops T W s M fun j => listed.getD j false) fun s' => ∃ o1, (∀ y, getK o1 y = getK ((M, nb) :: O) y) ∧ s' = (({ (stW ops T W s M fun j => listed.getD j false) with obs := F ++ o1, next := M + 1 } : St).put o.dst (mkD e.how M)) := by
       have e := hcall
       rcases o with ⟨odst, oop, ot, opos, oaf, og⟩
       unfold callOf at hco
       split at hco
       ·rename_i c hop
        simp only at hop
        subst hop
        split at hco
        ·cases hco
         rename_i f' hcal
         obtain ⟨cal, cargs, cts⟩ := c
         simp only at hcal
         subst hcal
         exact EffP.guard (e cts ot opos oaf)
        ·cases hco
       ·cases hco
      refine .inl (heff K a w hin hs _ _ (fun K' a' w' s' h1 h2 h3 => ?_) fun ch K' a' w' s' h1 h2 h3 => .inl ⟨K', s', h1, h2, h3⟩)
      obtain ⟨o1, ho1, rfl⟩ := h3
      refine mk e (by rw [heU]; simp) (fun ob h => by rw [heN] at h; cases h; exact ob_good_under hρs0 hM hnu) (by rw [heN]; exact ⟨x0, hcx⟩) K' a' w' h1 (h2.eqo ?_)
      have pobs : ∀ (q : St) (d : D), (q.put o.dst d).obs = q.obs := fun q d => by cases o.dst <;> rfl
      have pn : ∀ (q : St) (d : D), (q.put o.dst d).n = q.n := fun q d => by cases o.dst <;> rfl
      have pnext : ∀ (q : St) (d : D), (q.put o.dst d).next = q.next := fun q d => by cases o.dst <;> rfl
      have penv : ∀ (q q' : St) (d : D) (x : Nat), q.env = q'.env → getK (q.put o.dst d).env x = getK (q'.put o.dst d).env x := fun q q' d x e => by cases o.dst <;> simp [St.put, e]
      simp only [St.effS, heN]
      refine ⟨by rw [pn, pn], fun y => ?_, by rw [pnext, pnext]; rfl, fun x => penv _ _ _ x rfl⟩
      rw [pobs, pobs]
      simp only [heU]
      rw [getK_append, ho1, getK_cons, getK_cons]
      show _ = if y = M then some nb else getK (applyW [] (stW ops T W s M fun j => listed.getD j false).obs) y
      have hap : applyW [] (stW ops T W s M fun j => listed.getD j false).obs = (stW ops T W s M fun j => listed.getD j false).obs := rfl
      rw [hap]
      by_cases hy : y = M
      ·subst hy
       have hFM : getK F y = none := by rw [hFg, hMn]; split <;> rfl
       rw [hFM]
       simp
      ·rw [if_neg hy, if_neg hy, heq y, getK_append]
    ·rw [if_neg (by rw [hw]; simp)]
     exact next hv.2 K undef w hin (.refl _) rfl hs.sat (by rw [hv.1]; exact .u _ _ (.oth _))
 have h0 : (fun j => (Array.replicate ops.toArray.size false).getD j false) = fun _ => false := funext fun j => by
  by_cases hj : j < ops.length <;> simp [hj]
 refine key _ _ K a w0 (by simp) (by simp) (fun j y hj hS => ?_) hin0 ?_ (fun j x _ _ hc => hs.hdr x (hcr j x hc).1) (fun p _ _ => congrFun h0 p)
 ·have : (Array.replicate ops.toArray.size false).getD j false = false := congrFun h0 j
  rw [this] at hS
  cases hS
 ·rw [h0]
  have none : ∀ (l : List Oper) (i : Nat) (e : List (Nat × D)), envF T (fun _ => false) l i e = e := by
   intro l
   induction l with
   | nil => intro i e; rfl
   | cons o l ih => intro i e; simp [envF, ih]
  have wn : ∀ m, wlog W (fun _ => false) m = [] := by
   intro m
   induction m with
   | zero => rfl
   | succ m ih => simp [wlog, ih]
  refine ⟨hs0.sat.eqo fun y => ?_, hs0.defers, hs0.size, fun x d hx => hs0.env x d ?_, fun y hy => hs0.hdr y (Nat.le_trans hM hy)⟩
  ·simp only [stW, wn]; rfl
  ·simp only [stW, none] at hx; exact hx
abbrev Ent4 := Ent × Nat
abbrev Fp4 := List (List Nat × List Nat × Nat)
def eE (E : Nat → Ent4) (j : Nat) : Ent := (E j).1
def tF4 (E : Nat → Ent4) (n : Nat) : Fp4 := (List.range n).map fun j => (tR (eE E) j, keys (tW (eE E) j), (E j).2)
def Op2X (P : Program) (N : Nat) (s : St) (o : O1) (e : Ent) : Prop :=
 match o.guard with
 | none => Op1X P N s o.op o.dst e.1 e.2.1 e.2.2.1 e.2.2.2
 | some (t, want) => (∃ b, getK s.env t = some (.u (.bool b)) ∧ if b = want then Op1X P N s o.op o.dst e.1 e.2.1 e.2.2.1 e.2.2.2 else e.1 = .un ∧ e.2.1 = [] ∧ e.2.2.1 = none) ∨
  (getK s.env t = some .un ∧ e.1 = .un ∧ e.2.1 = [] ∧ e.2.2.1 = none)
def Op4 (P : Program) (Γ : Ctx) (N : Nat) (s : St) (o : O1) (e : Ent4) : Prop :=
 if e.2 = 2 then e.1.2.1 = [] ∧ e.1.2.2.1 = none else if e.2 = 1 then o.guard = none ∧ StopE P Γ s o.op ∧ e.1.2.1 = [] ∧ e.1.2.2.1 = none else e.2 = 0 ∧ Op2X P N s o e.1
def chain4 (P : Program) (Γ : Ctx) (N : Nat) : List O1 → St → Fp4 → (St → Fp4 → Prop) → Prop
 | [], s, fp, k => k s fp
 | o :: rest, s, fp, k => ∃ e : Ent4, putOK o.dst s ∧ Op4 P Γ N s o e ∧ (∀ x, e.1.2.2.1 = some x → x = s.next) ∧ chain4 P Γ N rest (s.app o.dst e.1) (fp ++ [(e.1.2.2.2, keys e.1.2.1, e.2)]) k
def HD4 (P : Program) (Γ : Ctx) (N : Nat) (l : List O1) (s : St) (fp : Fp4) (C : Fp4 → Prop) (k : St → Prop) : Prop :=
 ∀ s0 : St, s0.Eqo s → chain4 P Γ N l s0 fp fun s1 fp => C fp ∧ ((∀ p ∈ fp, p.2.2 ≠ 1) → ∃ s', s1.Eqo s' ∧ k s')
/-- The head of a list of operations goes through. -/
def HD4h (P : Program) (Γ : Ctx) (N : Nat) (o : O1) (rest : List O1) (s : St) (fp : Fp4) (C : Fp4 → Prop) (k : St → Prop) : Prop :=
 ∀ s0 : St, s0.Eqo s → ∃ e : Ent4, putOK o.dst s0 ∧ Op4 P Γ N s0 o e ∧ e.2 ≠ 1 ∧ (∀ x, e.1.2.2.1 = some x → x = s0.next) ∧ chain4 P Γ N rest (s0.app o.dst e.1) (fp ++ [(e.1.2.2.2, keys e.1.2.1, e.2)]) fun s1 fp => C fp ∧ ((∀ p ∈ fp, p.2.2 ≠ 1) → ∃ s', s1.Eqo s' ∧ k s')
theorem HD4.of_h {P Γ N o rest s fp C k} (h : HD4h P Γ N o rest s fp C k) : HD4 P Γ N (o :: rest) s fp C k := fun s0 e => by
 obtain ⟨en, h1, h2, _, h3, h4⟩ := h s0 e
 exact ⟨en, h1, h2, h3, h4⟩
theorem HD4_nil {P Γ N s fp C k} (hC : C fp) (h : k s) : HD4 P Γ N [] s fp C k := fun s0 e => ⟨hC, fun _ => ⟨s, e, h⟩⟩
theorem HD4_nilS {P Γ N s fp C k} (hC : C fp) (h : (fp.any fun p => p.2.2 == 1) = true) : HD4 P Γ N [] s fp C k := fun s0 e => ⟨hC, fun h1 => by
 obtain ⟨p, hp, hk⟩ := List.any_eq_true.1 h
 exact absurd (by simpa using hk) (h1 p hp)⟩
theorem HD4h_val {P Γ N s dst op rest fp C k} (_ : isEffOp op = false) (h : valD P s op fun d => putOK dst s ∧ HD4 P Γ N rest (s.put dst d) (fp ++ [(rdIds s op, [], 0)]) C k) : HD4h P Γ N ⟨dst, op, none⟩ rest s fp C k := fun s0 e => by
 obtain ⟨d, hv, hp, hr⟩ := Lin.valD.2 _ h
 refine ⟨((d, [], none, rdIds s op), 0), by cases dst <;> simp_all [putOK, e.1], ?_, by simp, fun x hx => (by cases hx), hr _ (e.put dst d)⟩
 unfold Op4
 rw [if_neg (by simp), if_neg (by simp)]
 exact ⟨rfl, .inl (.inl ⟨by rw [valD_eqo e]; exact hv, rfl, rfl, (rdIds_eqo e op).symm⟩)⟩
theorem HD4h_chg {P Γ N s dst op rest fp C k} (_ : isEffOp op = true) (h : effD P s op fun e => putOK dst s ∧ (e.nw = none → dst = none) ∧
  HD4 P Γ N rest (s.effS e dst) (fp ++ [(rdIds s op, match e.nw with | none => (e.U.map (·.1), 0) | some _ => (s.next :: e.U.map (·.1), 0))]) C k) : HD4h P Γ N ⟨dst, op, none⟩ rest s fp C k := fun s0 e0 => by
 obtain ⟨e, hv, hp, hd, hr⟩ := Lin.effD.2 _ h
 have hp0 : putOK dst s0 := by cases dst <;> simp_all [putOK, e0.1]
 have hv0 : effD P s0 op (· = e) := by rw [effD_eqo e0]; exact hv
 cases hn : e.nw with
 | none =>
  obtain rfl := hd hn
  refine ⟨((.any, e.U, none, rdIds s op), 0), hp0, ?_, by simp, fun x hx => (by cases hx), ?_⟩
  ·unfold Op4
   rw [if_neg (by simp), if_neg (by simp)]
   exact ⟨rfl, .inl (.inr ⟨e, hv0, (rdIds_eqo e0 op).symm, by rw [hn]; exact ⟨rfl, rfl, rfl⟩⟩)⟩
  rw [hn] at hr
  refine hr _ ?_
  simp only [St.app, St.effS, hn, St.put]
  exact ⟨e0.1, fun x => by simp only [getK_applyW, e0.2.1 x], e0.2.2.1, e0.2.2.2⟩
 | some ob =>
  refine ⟨((mkD e.how s0.next, (s0.next, some ob) :: e.U, some s0.next, rdIds s op), 0), hp0, ?_, by simp, fun x hx => (by cases hx; rfl), ?_⟩
  ·unfold Op4
   rw [if_neg (by simp), if_neg (by simp)]
   exact ⟨rfl, .inl (.inr ⟨e, hv0, (rdIds_eqo e0 op).symm, by rw [hn]; exact ⟨s0.next, rfl, rfl, rfl⟩⟩)⟩
  rw [hn] at hr
  have h1 := hr (s0.app dst (mkD e.how s0.next, (s0.next, some ob) :: e.U, some s0.next, rdIds s op)) (by
   simp only [St.app, St.effS, hn, e0.2.2.1]
   apply St.Eqo.put
   refine ⟨e0.1, fun x => ?_, by simp, e0.2.2.2⟩
   simp only [applyW, getK_setOb, getK_cons, getK_applyW, e0.2.1 x])
  simp only [keys, List.map_cons]
  rw [e0.2.2.1] at h1 ⊢
  exact h1
theorem HD4_val {P Γ N s dst op rest fp C k} (h0 : isEffOp op = false) (h : valD P s op fun d => putOK dst s ∧ HD4 P Γ N rest (s.put dst d) (fp ++ [(rdIds s op, [], 0)]) C k) : HD4 P Γ N (⟨dst, op, none⟩ :: rest) s fp C k := .of_h (HD4h_val h0 h)
theorem HD4_guard {P Γ N s dst op rest fp C k t want b} (hb : getK s.env t = some (.u (.bool b))) (hp : putOK dst s)
  (hy : b = want → HD4h P Γ N ⟨dst, op, none⟩ rest (s.put (some t) (.u (.bool want))) fp C k)
  (hn : b = !want → HD4 P Γ N rest ((s.put (some t) (.u (.bool (!want)))).put dst .un) (fp ++ [([], [], 0)]) C k) : HD4 P Γ N (⟨dst, op, some (t, want)⟩ :: rest) s fp C k := fun s0 e => by
 have lit : ∀ b', b = b' → s.Eqo (s.put (some t) (.u (.bool b'))) := fun b' e' => ⟨rfl, fun _ => rfl, rfl, fun x => by
  subst e'
  simp only [St.put, getK_cons]
  split
  ·rename_i hx; rw [hx, hb]
  ·rfl⟩
 have hp0 : putOK dst s0 := by cases dst <;> simp_all [putOK, e.1]
 by_cases hw : b = want
 ·have e1 := e.trans (lit want hw)
  obtain ⟨en, h1, h2, h5, h3, h4⟩ := hy hw s0 e1
  refine ⟨en, h1, ?_, h3, h4⟩
  unfold Op4 at h2 ⊢
  by_cases h6 : en.2 = 2
  ·rw [if_pos h6] at h2 ⊢
   exact h2
  ·rw [if_neg h6, if_neg h5] at h2 ⊢
   exact ⟨h2.1, .inl ⟨b, by rw [e.2.2.2 t]; exact hb, by rw [if_pos hw]; exact h2.2⟩⟩
 ·have hw' : b = !want := by cases b <;> cases want <;> simp_all
  have e1 := e.trans (lit _ hw')
  refine ⟨((.un, [], none, []), 0), hp0, ?_, fun x hx => (by cases hx), hn hw' _ (e1.put dst .un)⟩
  unfold Op4
  rw [if_neg (by simp), if_neg (by simp)]
  exact ⟨rfl, .inl ⟨b, by rw [e.2.2.2 t]; exact hb, by rw [if_neg hw]; exact ⟨rfl, rfl, rfl⟩⟩⟩
theorem HD4_guardU {P Γ N s dst op rest fp C k t want} (hb : getK s.env t = some .un) (hp : putOK dst s) (hn : HD4 P Γ N rest (s.put dst .un) (fp ++ [([], [], 0)]) C k) :
  HD4 P Γ N (⟨dst, op, some (t, want)⟩ :: rest) s fp C k := fun s0 e => by
 refine ⟨((.un, [], none, []), 0), by cases dst <;> simp_all [putOK, e.1], ?_, fun x hx => (by cases hx), hn _ (e.put dst .un)⟩
 unfold Op4
 rw [if_neg (by simp), if_neg (by simp)]
 exact ⟨rfl, .inr ⟨by rw [e.2.2.2 t]; exact hb, rfl, rfl, rfl⟩⟩
/-- An operation that is never reached, for one ahead of it panics. -/
theorem HD4_skip {P Γ N s dst op g rest fp C k} (hp : putOK dst s) (h : HD4 P Γ N rest (s.put dst .any) (fp ++ [([], [], 2)]) C k) : HD4 P Γ N (⟨dst, op, g⟩ :: rest) s fp C k := fun s0 e => by
 refine ⟨((.any, [], none, []), 2), by cases dst <;> simp_all [putOK, e.1], ?_, fun x hx => (by cases hx), h _ (e.put dst .any)⟩
 unfold Op4
 rw [if_pos rfl]
 exact ⟨rfl, rfl⟩
theorem applyW_getK (W : Wr) {o o' : List (Nat × Ob)} (h : ∀ y, getK o y = getK o' y) : ∀ y, getK (applyW W o) y = getK (applyW W o') y := fun y => by rw [getK_applyW, getK_applyW, h y]
theorem callW_keys {O O' : List (Nat × Ob)} (L : List Nat) (hkeys : O'.map (·.1) = O.map (·.1)) (y : Nat) :
  y ∈ keys ((O'.filter fun p => L.contains p.1).map (fun p => (p.1, some p.2)) : Wr) ↔ L.contains y = true ∧ y ∈ O.map (·.1) := by
 rw [← hkeys]
 simp only [keys, List.map_map, List.mem_map, List.mem_filter, Function.comp]
 exact ⟨fun ⟨p, ⟨h1, h2⟩, h3⟩ => ⟨h3 ▸ h2, p, h1, h3⟩, fun ⟨h1, p, h2, h3⟩ => ⟨p, ⟨h2, by rw [h3]; exact h1⟩, h3⟩⟩
theorem callW_get {O O' : List (Nat × Ob)} (L : List Nat) (hkeys : O'.map (·.1) = O.map (·.1)) (y : Nat) (hy : y ∈ keys ((O'.filter fun p => L.contains p.1).map (fun p => (p.1, some p.2)) : Wr)) :
  getK ((O'.filter fun p => L.contains p.1).map (fun p => (p.1, some p.2)) : Wr) y = some (getK O' y) := by
 obtain ⟨h1, h2⟩ := (callW_keys L hkeys y).1 hy
 rw [getK_some_map, getK_filterK, if_pos h1]
 obtain ⟨x, hx⟩ := getK_isSome (l := O') (y := y) (by rw [hkeys]; exact h2)
 rw [hx]; rfl
/-- A call that changes some of the objects it is handed, and makes none. -/
theorem HD4_callL {P : Program} {Γ : Ctx} {N : Nat} {s : St} {dst : Option Tmp} {rest fp C k} {fop : Operand} {args : Array Operand} {ts : Array TypeId} {f caps} {ds : List D} {d : D} (O O' : List (Nat × Ob)) (L : List Nat)
  (hret : ∀ nx, s.next ≤ nx → RetX P f ds O nx fun r o n => r = .val d ∧ (∀ y, getK o y = getK O' y) ∧ n = nx)
  (hf : calleeOf (opd s fop) = some (f, caps)) (hc : callable P f = true) (hds : args.toList.map (opd s) ++ caps = ds) (hkeys : O'.map (·.1) = O.map (·.1)) (hsm : ∀ y, L.contains y = false → getK O' y = getK O y) (hO : ∀ p ∈ O, getK s.obs p.1 = some p.2) (hnd : (O.map (·.1)).Nodup)
  (hu : d.under N = true ∧ ∀ p ∈ O', p.2.under N = true) (hp : putOK dst s)
  (h : HD4 P Γ N rest (({ s with obs := applyW ((O'.filter fun p => L.contains p.1).map fun p => (p.1, some p.2)) s.obs } : St).put dst d) (fp ++ [(O.map (·.1), (O'.filter fun p => L.contains p.1).map (·.1), 0)]) C k) :
  HD4 P Γ N (⟨dst, .call { callee := .value fop, args, argTypes := ts }, none⟩ :: rest) s fp C k := fun s0 e => by
 refine ⟨((d, (O'.filter fun p => L.contains p.1).map (fun p => (p.1, some p.2)), none, O.map (·.1)), 0), by cases dst <;> simp_all [putOK, e.1], ?_, fun x hx => (by cases hx), ?_⟩
 ·unfold Op4
  rw [if_neg (by simp), if_neg (by simp)]
  refine ⟨rfl, .inr (.inl ⟨⟨fop, args.toList, f, caps, O, O', L, rfl, by rw [opd_eqo e]; exact hf, hc, rfl, callW_keys L hkeys, callW_get L hkeys, hsm, fun p hp => by rw [e.2.1]; exact hO p hp, hnd, hu, fun nx hnx => ?_⟩, rfl⟩)⟩
  have e1 : args.toList.map (opd s0) = args.toList.map (opd s) := List.map_congr_left fun x _ => opd_eqo e x
  rw [e1, hds]
  exact hret nx (by rw [e.2.2.1] at hnx; exact hnx)
 ·have := h (s0.app dst (d, (O'.filter fun p => L.contains p.1).map (fun p => (p.1, some p.2)), none, O.map (·.1))) (by
   simp only [St.app]
   apply St.Eqo.put
   exact ⟨e.1, applyW_getK _ e.2.1, by simpa using e.2.2.1, e.2.2.2⟩)
  simpa [keys, List.map_map, Function.comp_def] using this
theorem filter_all {O O' : List (Nat × Ob)} (hkeys : O'.map (·.1) = O.map (·.1)) : (O'.filter fun p => (O.map (·.1)).contains p.1) = O' := by
 refine List.filter_eq_self.2 fun p hp => ?_
 rw [← hkeys]
 simp only [List.contains_eq_mem, decide_eq_true_eq]
 exact List.mem_map.2 ⟨p, hp, rfl⟩
/-- A call that changes the objects it is handed, and makes none. -/
theorem HD4_call {P : Program} {Γ : Ctx} {N : Nat} {s : St} {dst : Option Tmp} {rest fp C k} {fop : Operand} {args : Array Operand} {ts : Array TypeId} {f caps} {ds : List D} {d : D} (O O' : List (Nat × Ob))
  (hret : ∀ nx, s.next ≤ nx → RetX P f ds O nx fun r o n => r = .val d ∧ (∀ y, getK o y = getK O' y) ∧ n = nx)
  (hf : calleeOf (opd s fop) = some (f, caps)) (hc : callable P f = true) (hds : args.toList.map (opd s) ++ caps = ds) (hkeys : O'.map (·.1) = O.map (·.1)) (hO : ∀ p ∈ O, getK s.obs p.1 = some p.2) (hnd : (O.map (·.1)).Nodup)
  (hu : d.under N = true ∧ ∀ p ∈ O', p.2.under N = true) (hp : putOK dst s)
  (h : HD4 P Γ N rest (({ s with obs := applyW (O'.map fun p => (p.1, some p.2)) s.obs } : St).put dst d) (fp ++ [(O.map (·.1), O'.map (·.1), 0)]) C k) :
  HD4 P Γ N (⟨dst, .call { callee := .value fop, args, argTypes := ts }, none⟩ :: rest) s fp C k :=
 HD4_callL O O' (O.map (·.1)) hret hf hc hds hkeys (fun y hy => by
  rw [getK_keys O y (by simpa using hy), getK_keys O' y (by rw [hkeys]; simpa using hy)]) hO hnd hu hp (by rw [filter_all hkeys]; exact h)
/-- A call that panics: nothing behind it is reached. -/
theorem HD4_stop {P : Program} {Γ : Ctx} {N : Nat} {s : St} {dst : Option Tmp} {rest fp C k} {fop : Operand} {args : Array Operand} {ts : Array TypeId} {f caps} {ds : List D} {post : Out → List (Nat × Ob) → Nat → Prop} (O : List (Nat × Ob))
  (hret : ∀ nx, s.next ≤ nx → RetX P f ds O nx post) (hno : ∀ d o n, ¬ post (.val d) o n)
  (hf : calleeOf (opd s fop) = some (f, caps)) (hc : callable P f = true) (hds : args.toList.map (opd s) ++ caps = ds) (hO : ∀ p ∈ O, getK s.obs p.1 = some p.2) (hp : putOK dst s)
  (hx : ∀ env ch o n, s.next ≤ n → post (.pan ch) o n → ∃ s2, Wk Γ { n := s.n, env := env, obs := (s.obs.filter fun p => !(O.map (·.1)).contains p.1) ++ o, next := n } s2 ∧ Γ.pan ch s2)
  (h : HD4 P Γ N rest (s.put dst .any) (fp ++ [([], [], 1)]) C k) :
  HD4 P Γ N (⟨dst, .call { callee := .value fop, args, argTypes := ts }, none⟩ :: rest) s fp C k := fun s0 e => by
 refine ⟨((.any, [], none, []), 1), by cases dst <;> simp_all [putOK, e.1], ?_, fun x hx => (by cases hx), h _ (e.put dst .any)⟩
 unfold Op4
 rw [if_neg (by simp), if_pos rfl]
 refine ⟨rfl, fun s' hn ho hopd hnx o hop hg hpo => ?_, rfl, rfl⟩
 obtain ⟨odst, oop, ot, opos, oaf, og⟩ := o
 simp only at hop hg hpo
 subst hop
 subst hg
 have hopS : ∀ x ∈ fop :: args.toList, opd s' x = opd s x := fun x hx => by
  rw [hopd x (by
   simp only [Op.operands, Call.operands]
   simp only [List.mem_cons] at hx
   simp
   rcases hx with rfl | hx
   ·exact .inl rfl
   ·exact .inr (by simpa using hx)), opd_eqo e]
 have hOget : ∀ y, getK s'.obs y = getK s.obs y := fun y => by rw [ho, e.2.1]
 have hcall : CallP P Γ fop args.toList odst s' fun _ => False :=
  CallP.xF (s'.obs.filter fun p => !(O.map (·.1)).contains p.1) O (hret s'.next (by rw [← e.2.2.1]; exact hnx)) (fun y => by
   rw [getK_append, getK_filterN]
   by_cases hy : (O.map (·.1)).contains y = true
   ·rw [if_pos hy]
    obtain ⟨x, hx⟩ := getK_isSome (l := O) (y := y) (by simpa using hy)
    rw [hx, hOget y, hO _ (getK_memK hx)]
   ·rw [if_neg hy, getK_keys O y (by simpa using hy)]
    cases getK s'.obs y <;> rfl) (fun y ob hy => by
   rw [getK_filterN] at hy
   by_cases hc : (O.map (·.1)).contains y = true
   ·rw [if_pos hc] at hy; cases hy
   ·exact getK_keys O y (by simpa using hc)) (by rw [hopS fop (by simp)]; exact hf) hc (by rw [List.map_congr_left fun x hx => hopS x (by simp [hx])]; exact hds) hpo
   (fun d o1 nx' _ hp => absurd hp (hno d o1 nx')) (fun ch o1 nx' hn' hp => by
     obtain ⟨s2, h1, h2⟩ := hx s'.env ch o1 nx' (by have := e.2.2.1; omega) hp
     refine ⟨s2, fun K a w hin hs => h1 K a w hin (hs.eqo ⟨by simp [hn, e.1], fun y => ?_, rfl, fun _ => rfl⟩), h2⟩
     simp only [getK_append, getK_filterN, hOget])
 exact hcall ts ot opos oaf
theorem chain4_T {P : Program} {Γ : Ctx} {N : Nat} {all : Array Oper} {s0 : St} {ops : List Oper} {k : St → Fp4 → Prop} : ∀ (l : List O1) (tail : List Oper) (i : Nat) (E : Nat → Ent4), stripL all tail = some l → (∀ j, tail[j]? = ops[i + j]?) →
  chain4 P Γ N l (stE ops s0 (eE E) i) (tF4 E i) k → ∃ E' : Nat → Ent4, (∀ j, j < i → E' j = E j) ∧
   (∀ j o, i ≤ j → ops[j]? = some o → putOK o.dst s0 ∧ (if (E' j).2 = 2 then tW (eE E') j = [] ∧ tC (eE E') j = none else if (E' j).2 = 1 then o.guard = none ∧ StopE P Γ (stE ops s0 (eE E') j) o.op ∧ tW (eE E') j = [] ∧ tC (eE E') j = none else
     (E' j).2 = 0 ∧ OpGX P N all (stE ops s0 (eE E') j) o (tT (eE E') j) (tW (eE E') j) (tC (eE E') j) (tR (eE E') j)) ∧ ∀ x, tC (eE E') j = some x → x = s0.next + cnt (eE E') j) ∧
   k (stE ops s0 (eE E') (i + tail.length)) (tF4 E' (i + tail.length))
 | [], tail, i, E, hs, ht, h => by
  cases tail with
  | nil => exact ⟨E, fun _ _ => rfl, fun j o hj ho => by have := ht (j - i); rw [show i + (j - i) = j by omega, ho] at this; simp at this, by simpa [chain4] using h⟩
  | cons x l => simp only [stripL] at hs; split at hs <;> simp at hs
 | o1 :: l, tail, i, E, hs, ht, h => by
  obtain ⟨x, tl, rfl, hx, hr⟩ := stripL_cons hs
  obtain ⟨e, hp, hv, hnx, hc⟩ := h
  have hxi : ops[i]? = some x := by have := ht 0; simpa using this.symm
  have hdst : o1.dst = x.dst ∧ o1.op = x.op := by
   unfold strip at hx
   split at hx
   ·simp at hx; subst hx; exact ⟨rfl, rfl⟩
   ·split at hx
    ·simp at hx; subst hx; exact ⟨rfl, rfl⟩
    ·cases hx
  let E1 : Nat → Ent4 := fun j => if j = i then e else E j
  have h1 : ∀ j, j < i → E j = E1 j := fun j hj => by simp only [E1]; rw [if_neg (by omega)]
  have h1' : ∀ j, j < i → eE E j = eE E1 j := fun j hj => by simp only [eE, h1 j hj]
  have hi : E1 i = e := by simp [E1]
  have hi' : eE E1 i = e.1 := by simp only [eE, hi]
  have hstep : (stE ops s0 (eE E) i).app o1.dst e.1 = stE ops s0 (eE E1) (i + 1) := by
   rw [stE_congr h1', hdst.1]
   simp only [stE, St.app]
   rw [envF_step (tT (eE E1)) i ops 0 s0.env x (Nat.zero_le _) (by simpa using hxi)]
   have hw : wlog (tW (eE E1)) (fun _ => true) (i + 1) = e.1.2.1 ++ wlog (tW (eE E1)) (fun _ => true) i := by
    rw [wlog, if_pos rfl, show tW (eE E1) i = e.1.2.1 by simp only [tW, hi']]
   have hcn : cnt (eE E1) (i + 1) = cnt (eE E1) i + if e.1.2.2.1.isSome then 1 else 0 := by
    rw [cnt, show tC (eE E1) i = e.1.2.2.1 by simp only [tC, hi']]
   rw [hw, applyW_append, hcn]
   have hT : tT (eE E1) i = e.1.1 := by simp only [tT, hi']
   cases x.dst with
   | none => simp only [St.put, Nat.add_assoc]
   | some y => simp only [St.put, hT, Nat.add_assoc]
  have hfp : tF4 E i ++ [(e.1.2.2.2, keys e.1.2.1, e.2)] = tF4 E1 (i + 1) := by
   have hc1 : tF4 E i = tF4 E1 i := List.map_congr_left fun j hj => by
    have := h1 j (List.mem_range.1 hj)
    simp only [eE, tR, tW, this]
   rw [hc1]
   simp only [tF4, List.range_succ, List.map_append, List.map_cons, List.map_nil]
   rw [show tR (eE E1) i = e.1.2.2.2 by simp only [tR, hi'], show tW (eE E1) i = e.1.2.1 by simp only [tW, hi'], hi]
  rw [hstep, hfp] at hc
  obtain ⟨E', g1, g2, g3⟩ := chain4_T l tl (i + 1) E1 hr (fun j => by have := ht (j + 1); rw [show i + 1 + j = i + (j + 1) by omega, ← this]; simp) hc
  refine ⟨E', fun j hj => by rw [g1 j (by omega), h1 j hj], fun j o hj ho => ?_, ?_⟩
  ·rcases Nat.lt_or_ge i j with h' | h'
   ·exact g2 j o h' ho
   ·obtain rfl : i = j := by omega
    rw [hxi] at ho
    cases ho
    have hEi : E' i = e := by rw [g1 i (by omega), hi]
    have hEi' : eE E' i = e.1 := by simp only [eE, hEi]
    have hst : stE ops s0 (eE E') i = stE ops s0 (eE E) i := stE_congr fun j hj => by simp only [eE]; rw [g1 j (by omega), ← h1 j hj]
    refine ⟨by rw [hdst.1] at hp; exact hp, ?_, fun y hy => ?_⟩
    ·rw [hst]
     simp only [tT, tW, tC, tR, hEi, hEi']
     unfold Op4 at hv
     by_cases c2 : e.2 = 2
     ·rw [if_pos c2] at hv ⊢
      exact hv
     ·rw [if_neg c2] at hv ⊢
      by_cases c1 : e.2 = 1
      ·rw [if_pos c1] at hv ⊢
       obtain ⟨v1, v2, v3⟩ := hv
       refine ⟨?_, by rw [← hdst.2]; exact v2, v3⟩
       unfold strip at hx
       split at hx
       ·rename_i hg; exact hg
       ·split at hx
        ·simp at hx; subst hx; cases v1
        ·cases hx
      ·rw [if_neg c1] at hv ⊢
       obtain ⟨v0, hv⟩ := hv
       refine ⟨v0, ?_⟩
       unfold strip at hx
       unfold OpGX
       unfold Op2X at hv
       split at hx
       ·rename_i hg
        simp at hx
        subst hx
        try rw [hg]
        exact hv
       ·rename_i q want hg
        split at hx
        ·rename_i t ht'
         simp at hx
         subst hx
         try rw [hg]
         exact ⟨t, ht', hv⟩
        ·cases hx
    ·have : tC (eE E') i = e.1.2.2.1 := by simp only [tC, hEi']
     rw [this] at hy
     have := hnx y hy
     rw [this, cnt_congr (eE E') (eE E) i fun j hj => by simp only [eE]; rw [g1 j (by omega), ← h1 j hj]]
     try rfl
  ·rw [show i + (x :: tl).length = i + 1 + tl.length by simp; omega]
   exact g3
def okP4 (ops : List Oper) (fp : Fp4) : Bool :=
 okP ops (fp.map fun p => (p.1, p.2.1)) &&
 (List.range ops.length).all fun j => ((fp.getD j ([], [], 0)).2.2 != 2 || (List.range ops.length).any fun p => (fp.getD p ([], [], 0)).2.2 == 1 && befB ops ops.length p j) &&
   ((fp.getD j ([], [], 0)).2.2 != 1 || (List.range ops.length).all fun i => (fp.getD i ([], [], 0)).2.1.isEmpty || befB ops ops.length i j || befB ops ops.length j i)
theorem VA_drawX {P Γ s} {R0 : Exit → St → Prop} {l : List Oper} (hord : ordOK l = true) (hn0 : Γ.n0 ≤ s.next)
  (h : ∀ (C : Fp4 → Prop) (k : St → Prop), (∀ fp, okP4 l fp = true → C fp) → (∀ s', R0 .normal s' → k s') → match stripL l.toArray l with | some l' => HD4 P Γ s.next l' s [] C k | none => False) :
  VA P Γ l s R0 := by
 have := h (fun fp => okP4 l fp = true) _ (fun _ h => h) fun _ h => h
 split at this
 ·rename_i l' hl
  have h0 : stE l s (eE fun _ => default) 0 = s := by
   have hnone : ∀ (l : List Oper) (i : Nat) (e : List (Nat × D)), envF (tT (eE fun _ => default)) (fun j => decide (j < 0)) l i e = e := by
    intro l
    induction l with
    | nil => intro i e; rfl
    | cons o l ih => intro i e; exact ih (i + 1) e
   simp only [stE, hnone]
   try rfl
  have hc := this s (.refl s)
  rw [← h0] at hc
  obtain ⟨E, _, h2, hok, hfin⟩ := chain4_T l' l 0 (fun _ => default) hl (fun j => by rw [Nat.zero_add]) hc
  rw [Nat.zero_add] at hok hfin
  simp only [okP4, Bool.and_eq_true] at hok
  obtain ⟨hok1, hok2⟩ := hok
  have hlen4 : ∀ i, i < l.length → (tF4 E l.length).getD i ([], [], 0) = (tR (eE E) i, keys (tW (eE E) i), (E i).2) := fun i hi => by
   simp [tF4, hi]
  have hlen : ∀ i, i < l.length → ((tF4 E l.length).map fun p => (p.1, p.2.1)).getD i ([], []) = (tR (eE E) i, keys (tW (eE E) i)) := fun i hi => by
   simp [tF4, hi]
  have mono : ∀ i j, i ≤ j → cnt (eE E) i ≤ cnt (eE E) j := fun i j hij => by
   induction hij with
   | refl => exact Nat.le_refl _
   | step _ ih => simp only [cnt]; omega
  have hcr : ∀ i x, i < l.length → tC (eE E) i = some x → x = s.next + cnt (eE E) i ∧ cnt (eE E) (i + 1) = cnt (eE E) i + 1 := fun i x hi hx => by
   have := (h2 i _ (Nat.zero_le _) (List.getElem?_eq_getElem hi)).2.2 x hx
   exact ⟨this, by simp only [cnt, hx]; rfl⟩
  let cr : Nat → Option Nat := fun i => if i < l.length then tC (eE E) i else none
  let kd : Nat → Nat := fun i => if i < l.length then (E i).2 else 0
  let W : Nat → Wr := fun i => if i < l.length then tW (eE E) i else []
  have hWe : ∀ i, i < l.length → W i = tW (eE E) i := fun i hi => by simp only [W]; rw [if_pos hi]
  refine VA_draw4 (T := tT (eE E)) (W := W) (cr := cr) (R := tR (eE E)) (kd := kd) (M := s.next + cnt (eE E) l.length) hord hn0 (by omega) (fun i x hx => ?_) (fun i j x hi hj => ?_) (fun i j hij hj hb => ?_) (fun i hk => ?_) (fun p i hp hi hw => ?_) (fun i o ho => ?_) (fun hnk => ?_)
  ·simp only [cr] at hx
   split at hx
   ·rename_i hi
    obtain ⟨e1, e2⟩ := hcr i x hi hx
    have := mono (i + 1) l.length hi
    omega
   ·cases hx
  ·simp only [cr] at hi hj
   split at hi
   ·rename_i hil
    split at hj
    ·rename_i hjl
     obtain ⟨e1, e2⟩ := hcr i x hil hi
     obtain ⟨e3, e4⟩ := hcr j x hjl hj
     rcases Nat.lt_trichotomy i j with hlt | hlt | hlt
     ·have := mono (i + 1) j hlt
      omega
     ·exact hlt
     ·have := mono (j + 1) i hlt
      omega
    ·cases hj
   ·cases hi
  ·have := (List.all_eq_true.1 ((List.all_eq_true.1 hok1) j (List.mem_range.2 hj))) i (List.mem_range.2 hij)
   rw [hb, hlen i (by omega), hlen j hj] at this
   simp only [Bool.false_or, Bool.and_eq_true] at this
   rw [hWe i (by omega), hWe j hj]
   refine ⟨fun y hy => ?_, fun y hy => disjB_out this.2 y hy⟩
   have := disjB_out this.1 y hy
   rw [List.mem_append, not_or] at this
   exact this
  ·simp only [kd] at hk
   split at hk
   ·rename_i hi
    obtain ⟨_, g2, _⟩ := h2 i _ (Nat.zero_le _) (List.getElem?_eq_getElem hi)
    have hci : cr i = tC (eE E) i := by simp only [cr]; rw [if_pos hi]
    rw [hWe i hi, hci]
    by_cases c2 : (E i).2 = 2
    ·rw [if_pos c2] at g2; exact g2
    ·rw [if_neg c2] at g2
     by_cases c1 : (E i).2 = 1
     ·rw [if_pos c1] at g2; exact g2.2.2
     ·rw [if_neg c1] at g2; exact absurd g2.1 hk
   ·exact absurd rfl hk
  ·simp only [kd] at hp
   split at hp
   ·rename_i hpl
    have := (List.all_eq_true.1 hok2) p (List.mem_range.2 hpl)
    rw [Bool.and_eq_true, hlen4 p hpl] at this
    have h3 := this.2
    simp only [hp] at h3
    have h4 : ((List.range l.length).all fun i => ((tF4 E l.length).getD i ([], [], 0)).2.1.isEmpty || befB l l.length i p || befB l l.length p i) = true := by simpa using h3
    have h5 := (List.all_eq_true.1 h4) i (List.mem_range.2 hi)
    rw [hlen4 i hi] at h5
    simp only [Bool.or_eq_true] at h5
    rcases h5 with (h5 | h5) | h5
    ·exfalso
     apply hw
     rw [hWe i hi]
     have : keys (tW (eE E) i) = [] := by simpa using h5
     simpa [keys] using this
    ·exact .inl h5
    ·exact .inr h5
   ·cases hp
  ·have hi := (List.getElem?_eq_some_iff.1 ho).1
   obtain ⟨g1, g2, g3⟩ := h2 i o (Nat.zero_le _) ho
   refine ⟨g1, ?_⟩
   have hwl : ∀ S m, m ≤ l.length → wlog W S m = wlog (tW (eE E)) S m := fun S m hm => wlog_congrW W (tW (eE E)) S m fun j hj => hWe j (by omega)
   have hst : stW l (tT (eE E)) W s (s.next + cnt (eE E) l.length) (fun j => decide (j < i)) = { stE l s (eE E) i with next := s.next + cnt (eE E) l.length } := by
    simp only [stW, stE]
    rw [hwl _ _ (Nat.le_refl _), wlog_take (tW (eE E)) i l.length (by omega)]
   have hcri : cr i = tC (eE E) i := by simp only [cr]; rw [if_pos hi]
   have hkdi : kd i = (E i).2 := by simp only [kd]; rw [if_pos hi]
   rw [hst, hcri, hkdi, hWe i hi]
   have opo : ∀ x, opd { stE l s (eE E) i with next := s.next + cnt (eE E) l.length } x = opd (stE l s (eE E) i) x := fun x => by cases x <;> rfl
   have eqo : ∀ (op : Op) (r : D → Prop), valD P { stE l s (eE E) i with next := s.next + cnt (eE E) l.length } op r = valD P (stE l s (eE E) i) op r := fun op r => valD_congr rfl fun x _ => by cases x <;> rfl
   have ero : ∀ (op : Op), rdIds { stE l s (eE E) i with next := s.next + cnt (eE E) l.length } op = rdIds (stE l s (eE E) i) op := fun op => by
    have e : opd { stE l s (eE E) i with next := s.next + cnt (eE E) l.length } = opd (stE l s (eE E) i) := funext fun x => by cases x <;> rfl
    unfold rdIds lentIds argsV
    rw [e]
   have efo : ∀ (op : Op) (r : ERes → Prop), effD P { stE l s (eE E) i with next := s.next + cnt (eE E) l.length } op r = effD P (stE l s (eE E) i) op r := fun op r =>
    propext ⟨effD_loc (fun _ _ => rfl) fun x _ => by cases x <;> rfl, effD_loc (fun _ _ => rfl) fun x _ => by cases x <;> rfl⟩
   have hle : (stE l s (eE E) i).next ≤ s.next + cnt (eE E) l.length := by
    have := mono i l.length (by omega)
    simp only [stE]; omega
   have cao : ∀ (op : Op) (d : D) (W : Wr) (R : List Nat), CallE P s.next (stE l s (eE E) i) op d W R → CallE P s.next { stE l s (eE E) i with next := s.next + cnt (eE E) l.length } op d W R :=
    fun op d W R ⟨fop, args, f, caps, O, O', L, q1, q2, q3, q4, q5, q6, q6b, q7, q8, q9, q10⟩ => ⟨fop, args, f, caps, O, O', L, q1, by rw [opo]; exact q2, q3, q4, q5, q6, q6b, q7, q8, q9, fun nx hnx => by
     rw [List.map_congr_left fun x _ => opo x]
     exact q10 nx (Nat.le_trans hle hnx)⟩
   have c1x : ∀ (op : Op) (dst : Option Tmp) (d : D) (W : Wr) (cr : Option Nat) (R : List Nat), Op1X P s.next (stE l s (eE E) i) op dst d W cr R → Op1X P s.next { stE l s (eE E) i with next := s.next + cnt (eE E) l.length } op dst d W cr R :=
    fun op dst d W cr R h => by
     rcases h with h | ⟨h, hc⟩ | ⟨fop, args, f, caps, O, e, nb, x0, q1, q2, q3, q4, q5, q6, q7, q8⟩
     ·left
      unfold Op1 at h ⊢
      simp only [eqo, ero, efo]
      exact h
     ·exact .inr (.inl ⟨cao _ _ _ _ h, hc⟩)
     ·exact .inr (.inr ⟨fop, args, f, caps, O, e, nb, x0, q1, by rw [opo]; exact q2, q3, q4, q5, q6, q7, fun nx hnx => by
       rw [List.map_congr_left fun x _ => opo x]
       exact q8 nx (Nat.le_trans hle hnx)⟩)
   by_cases k2 : (E i).2 = 2
   ·rw [if_pos k2]
    have := (List.all_eq_true.1 hok2) i (List.mem_range.2 hi)
    rw [Bool.and_eq_true, hlen4 i hi] at this
    have h3 := this.1
    simp only [k2] at h3
    have h4 : ((List.range l.length).any fun p => ((tF4 E l.length).getD p ([], [], 0)).2.2 == 1 && befB l l.length p i) = true := by simpa using h3
    obtain ⟨p, hp, h5⟩ := List.any_eq_true.1 h4
    have hpl := List.mem_range.1 hp
    rw [hlen4 p hpl, Bool.and_eq_true] at h5
    exact ⟨p, by simp only [kd]; rw [if_pos hpl]; simpa using h5.1, hpl, h5.2⟩
   ·rw [if_neg k2] at g2 ⊢
    by_cases k1 : (E i).2 = 1
    ·rw [if_pos k1] at g2 ⊢
     refine ⟨g2.1, fun s' a1 a2 a3 a4 => g2.2.1 s' a1 a2 (fun x hx => by rw [a3 x hx, opo]) (Nat.le_trans hle a4)⟩
    ·rw [if_neg k1] at g2 ⊢
     obtain ⟨_, g2⟩ := g2
     unfold OpGX at g2 ⊢
     split
     ·rename_i hg; rw [hg] at g2; exact c1x _ _ _ _ _ _ g2
     ·rename_i j want hg
      rw [hg] at g2
      obtain ⟨t, ht, g2⟩ := g2
      refine ⟨t, ht, ?_⟩
      rcases g2 with ⟨b, hb, g2⟩ | g2
      ·refine .inl ⟨b, hb, ?_⟩
       split
       ·rename_i hbw; rw [if_pos hbw] at g2; exact c1x _ _ _ _ _ _ g2
       ·rename_i hbw; rw [if_neg hbw] at g2; exact g2
      ·exact .inr g2
  ·obtain ⟨s', h3, h4⟩ := hfin fun p hp => by
    obtain ⟨i, hi, rfl⟩ := List.mem_map.1 hp
    have hil := List.mem_range.1 hi
    have := hnk i hil
    simp only [kd] at this
    rw [if_pos hil] at this
    exact this
   refine ⟨s', St.Eqo.trans (b := stE l s (eE E) l.length) ⟨rfl, fun x => ?_, rfl, fun x => ?_⟩ h3, h4⟩
   ·simp only [stW, stE]
    rw [wlog_congrW W (tW (eE E)) (fun _ => true) l.length fun j hj => hWe j hj]
   ·simp only [stW, stE]
    exact envF_congr (tT (eE E)) _ _ x l 0 s.env s.env rfl fun j o hj _ => by
     have := (List.getElem?_eq_some_iff.1 hj).1
     simp [this]
 ·exact this.elim
theorem V_drawX {P Γ s} {Q : Exit → St → Prop} {kt : Kt} {id : Nat} {l : List Oper} (hm : P.follows .mixedOrders = true) (hord : ordOK l = true) (hn0 : Γ.n0 ≤ s.next)
  (h : ∀ (C : Fp4 → Prop) (k : St → Prop), (∀ fp, okP4 l fp = true → C fp) → (∀ s', RunK P Γ Q kt .normal s' → k s') → match stripL l.toArray l with | some l' => HD4 P Γ s.next l' s [] C k | none => False) :
  V P Γ (.region id l.toArray true) s (RunK P Γ Q kt) := fun K a w hin hs => by
 refine wp_region_any hm ?_
 exact VA_drawX (R0 := RunK P Γ Q kt) hord hn0 h K a w hin hs
end Go.VL
namespace Go.VL
open Go
/-- Numbers of objects by their places: the first ones are those that were handed over. -/
def rhoI (ids : List Nat) (nx k : Nat) : Nat := match ids[k]? with | some x => x | none => nx + (k - ids.length)
theorem rhoI_inj {ids : List Nat} {nx : Nat} (hd : ids.Nodup) (hlt : ∀ x ∈ ids, x < nx) {a b : Nat} (h : rhoI ids nx a = rhoI ids nx b) : a = b := by
 unfold rhoI at h
 rcases ha : ids[a]? with _ | x <;> rcases hb : ids[b]? with _ | y <;> rw [ha, hb] at h <;> simp only at h
 ·have := List.getElem?_eq_none_iff.1 ha
  have := List.getElem?_eq_none_iff.1 hb
  omega
 ·have := hlt y (List.mem_of_getElem? hb)
  omega
 ·have := hlt x (List.mem_of_getElem? ha)
  omega
 ·obtain ⟨h1, h2⟩ := List.getElem?_eq_some_iff.1 ha
  obtain ⟨h3, h4⟩ := List.getElem?_eq_some_iff.1 hb
  rw [List.nodup_iff_pairwise_ne, List.pairwise_iff_getElem] at hd
  rcases Nat.lt_trichotomy a b with hlt' | hlt' | hlt'
  ·exact absurd (h2.trans (h.trans h4.symm)) (hd a b h1 h3 hlt')
  ·exact hlt'
  ·exact absurd (h2.trans (h.trans h4.symm)).symm (hd b a h3 h1 hlt')
inductive KL (ids : List Nat) (nx : Nat) : List Nat → List Nat → Prop
 | nil : KL ids nx [] []
 | cons (k : Nat) {x l l0} (h : rhoI ids nx k = x) (t : KL ids nx l l0) : KL ids nx (x :: l) (k :: l0)
theorem KL.map {ids nx l l0} (h : KL ids nx l l0) : l = l0.map (rhoI ids nx) := by
 induction h with
 | nil => rfl
 | cons k h t ih => rw [List.map_cons, h, ← ih]
inductive KF (ids : List Nat) (nx : Nat) : Fp4 → Fp4 → Prop
 | nil : KF ids nx [] []
 | cons {a a0 b b0 k fp fp0} (h1 : KL ids nx a a0) (h2 : KL ids nx b b0) (h3 : KF ids nx fp fp0) : KF ids nx ((a, b, k) :: fp) ((a0, b0, k) :: fp0)
theorem KF.map {ids nx l l0} (h : KF ids nx l l0) : l = l0.map fun p => (p.1.map (rhoI ids nx), p.2.1.map (rhoI ids nx), p.2.2) := by
 induction h with
 | nil => rfl
 | cons h1 h2 _ ih => rw [List.map_cons, ← h1.map, ← h2.map, ← ih]
theorem disjB_map {ρ : Nat → Nat} (hρ : ∀ a b, ρ a = ρ b → a = b) (a b : List Nat) : disjB (a.map ρ) (b.map ρ) = disjB a b := by
 unfold disjB
 rw [List.all_map]
 congr 1
 funext y
 simp only [Function.comp]
 congr 1
 rw [Bool.eq_iff_iff]
 simp only [List.contains_eq_mem, decide_eq_true_eq, List.mem_map]
 exact ⟨fun ⟨z, h1, h2⟩ => hρ _ _ h2 ▸ h1, fun h => ⟨y, h, rfl⟩⟩
theorem okP4_ren {ops : List Oper} {fp : Fp4} (ids : List Nat) (nx : Nat) (hd : ids.Nodup) (hlt : ∀ x ∈ ids, x < nx) (h : ∃ fp0, KF ids nx fp fp0 ∧ okP4 ops fp0 = true) : okP4 ops fp = true := by
 obtain ⟨fp0, hk, h⟩ := h
 have hr := hk.map
 subst hr
 have hρ : ∀ a b, rhoI ids nx a = rhoI ids nx b → a = b := fun a b => rhoI_inj hd hlt
 have g4 : ∀ i, (fp0.map fun p => (p.1.map (rhoI ids nx), p.2.1.map (rhoI ids nx), p.2.2)).getD i ([], [], 0) = (((fp0.getD i ([], [], 0)).1.map (rhoI ids nx), (fp0.getD i ([], [], 0)).2.1.map (rhoI ids nx), (fp0.getD i ([], [], 0)).2.2)) := fun i => by
  simp only [List.getD_eq_getElem?_getD, List.getElem?_map]
  cases fp0[i]? <;> rfl
 have g2 : ∀ i, ((fp0.map fun p => (p.1.map (rhoI ids nx), p.2.1.map (rhoI ids nx), p.2.2)).map fun p => (p.1, p.2.1)).getD i ([], []) =
   ((((fp0.map fun p => (p.1, p.2.1)).getD i ([], [])).1.map (rhoI ids nx), ((fp0.map fun p => (p.1, p.2.1)).getD i ([], [])).2.map (rhoI ids nx))) := fun i => by
  simp only [List.getD_eq_getElem?_getD, List.getElem?_map]
  cases fp0[i]? <;> rfl
 unfold okP4 okP at h ⊢
 simp only [g4, g2, ← List.map_append, disjB_map hρ, List.isEmpty_map] at h ⊢
 exact h
/-- A call that changes the one object it is handed. -/
theorem HD4_ok1 {P : Program} {Γ : Ctx} {N : Nat} {s : St} {dst : Option Tmp} {rest fp C k} {fop : Operand} {args : Array Operand} {ts : Array TypeId} {f caps} {ds : List D} {d : D} {j : Nat} {ob ob' : Ob}
  (hret : ∀ nx, s.next ≤ nx → RetX P f ds [(j, ob)] nx fun r o n => r = .val d ∧ o = [(j, ob')] ∧ n = nx)
  (hj : getK s.obs j = some ob) (hf : calleeOf (opd s fop) = some (f, caps)) (hc : callable P f = true) (hds : args.toList.map (opd s) ++ caps = ds)
  (hu : d.under N = true ∧ ob'.under N = true) (hp : putOK dst s)
  (h : HD4 P Γ N rest (({ s with obs := applyW [(j, some ob')] s.obs } : St).put dst d) (fp ++ [([j], [j], 0)]) C k) :
  HD4 P Γ N (⟨dst, .call { callee := .value fop, args, argTypes := ts }, none⟩ :: rest) s fp C k :=
 HD4_call [(j, ob)] [(j, ob')] (fun nx hnx => (hret nx hnx).mono fun r o n ⟨h1, h2, h3⟩ => ⟨h1, fun y => by rw [h2], h3⟩) hf hc hds rfl (by simpa using hj) (by simp) ⟨hu.1, by simpa using hu.2⟩ hp h
/-- The same, and it panics. -/
theorem HD4_pan1 {P : Program} {Γ : Ctx} {N : Nat} {s : St} {dst : Option Tmp} {rest fp C k} {fop : Operand} {args : Array Operand} {ts : Array TypeId} {f caps} {ds : List D} {j : Nat} {ob : Ob} {ch : List PanicEntry} {p : Ob → Prop}
  (hret : ∀ nx, s.next ≤ nx → RetX P f ds [(j, ob)] nx fun r o n => r = .pan ch ∧ (∃ ob', p ob' ∧ o = [(j, ob')]) ∧ n = nx)
  (hj : getK s.obs j = some ob) (hf : calleeOf (opd s fop) = some (f, caps)) (hc : callable P f = true) (hds : args.toList.map (opd s) ++ caps = ds) (hp : putOK dst s)
  (hx : ∀ env ob' n, s.next ≤ n → p ob' → ∃ s2, Wk Γ { n := s.n, env := env, obs := del s.obs j ++ [(j, ob')], next := n } s2 ∧ Γ.pan ch s2)
  (h : HD4 P Γ N rest (s.put dst .any) (fp ++ [([], [], 1)]) C k) :
  HD4 P Γ N (⟨dst, .call { callee := .value fop, args, argTypes := ts }, none⟩ :: rest) s fp C k := by
 have hfil : (s.obs.filter fun p => !(([(j, ob)] : List (Nat × Ob)).map (·.1)).contains p.1) = del s.obs j := by
  unfold del
  congr 1
  funext p
  simp only [List.map_cons, List.map_nil, List.contains_cons, List.contains_nil, Bool.or_false]
 refine HD4_stop (post := fun r o _ => r = .pan ch ∧ ∃ ob', p ob' ∧ o = [(j, ob')]) [(j, ob)] (fun nx hnx => (hret nx hnx).mono fun r o n ⟨h1, h2, _⟩ => ⟨h1, h2⟩) (fun d o n h => by cases h.1) hf hc hds (by simpa using hj) hp (fun env ch' o n hn h => ?_) h
 obtain ⟨h1, ob', h2, rfl⟩ := h
 cases h1
 rw [hfil]
 exact hx env ob' n hn h2
/-- Behind a call that panics. -/
theorem HD4_skipS {P Γ N s dst op g rest fp C k} (_ : (fp.any fun p => p.2.2 == 1) = true) (hp : putOK dst s) (h : HD4 P Γ N rest (s.put dst .any) (fp ++ [([], [], 2)]) C k) : HD4 P Γ N (⟨dst, op, g⟩ :: rest) s fp C k := HD4_skip hp h
/-- The end of a call: without its slots and its own objects. -/
theorem FinOK.cut {n0 : Nat} {post : D → List (Nat × Ob) → Nat → Prop} {s : St} {d : D} (obs : List (Nat × Ob)) (N : Nat) (ho : ∀ p ∈ obs, getK s.obs p.1 = some p.2 ∧ p.1 < N ∧ p.2.under N = true) (hd : d.under N = true) (hn : n0 ≤ N)
  (h : post d obs N) : FinOK n0 post s d :=
 .inl ⟨{ s with env := [], obs := obs, next := N }, fun i => i, d, ⟨rfl, fun x d' hx => by simp [getK] at hx, fun x d' hx => by simp [getK] at hx,
  fun i ob hi => ⟨(ho _ (getK_in hi)).2.1, ob, (ho _ (getK_in hi)).1, Ob.le_id ob, (ho _ (getK_in hi)).2.2⟩, fun _ _ _ _ _ _ h => h, fun i hi => ⟨rfl, Nat.lt_of_lt_of_le hi hn⟩⟩, D.le_id d, hd, hn, h⟩
def isVec : D → Bool
 | .vec .. => true
 | _ => false
/-- A slice that is handed over and not needed any more is frozen ahead of the call. -/
theorem CallP_frzV {P : Program} {Γ : Ctx} {s : St} {k : St → Prop} {dst : Option Tmp} {fop : Operand} {args : List Operand} (_ : (args.map (opd s)).any isVec = true) (h : CallP P Γ fop args dst (frzN 1 s) k) : CallP P Γ fop args dst s k :=
 CallP_wk (Wk.frzN 1 _) h
end Go.VL
namespace Go.VL
open Go
def delL {α : Type} (obs : List (Nat × α)) : List Nat → List (Nat × α)
 | [] => obs
 | i :: l => delL (del obs i) l
theorem delL_filter {α : Type} : ∀ (l : List Nat) (obs : List (Nat × α)), delL obs l = obs.filter fun p => !l.contains p.1
 | [], obs => by rw [delL]; exact (List.filter_eq_self.2 (by simp)).symm
 | i :: l, obs => by
  rw [delL, delL_filter l, del, List.filter_filter]
  congr 1
  funext p
  simp only [List.contains_cons]
  cases p.1 == i <;> cases l.contains p.1 <;> rfl
theorem delL_heq {obs O : List (Nat × Ob)} (hO : ∀ p ∈ O, getK obs p.1 = some p.2) (i : Nat) : getK obs i = getK (delL obs (O.map (·.1)) ++ O) i := by
 rw [delL_filter, getK_append, getK_filterN]
 by_cases hy : (O.map (·.1)).contains i = true
 ·rw [if_pos hy]
  obtain ⟨x, hx⟩ := getK_isSome (l := O) (y := i) (by simpa using hy)
  rw [hx, hO _ (getK_memK hx)]
 ·rw [if_neg hy, getK_keys O i (by simpa using hy)]
  cases getK obs i <;> rfl
theorem delL_none {obs O : List (Nat × Ob)} (i : Nat) (ob : Ob) (h : getK (delL obs (O.map (·.1))) i = some ob) : getK O i = none := by
 rw [delL_filter, getK_filterN] at h
 by_cases hc : (O.map (·.1)).contains i = true
 ·rw [if_pos hc] at h; cases h
 ·exact getK_keys O i (by simpa using hc)
/-- A call that is handed objects, and goes through. -/
theorem CallP.okL {P : Program} {Γ : Ctx} {s : St} {k : St → Prop} {dst : Option Tmp} {fop : Operand} {args : List Operand} {f caps} {ds : List D} {O O' : List (Nat × Ob)} {d : D} {N : Nat}
  (hret : RetX P f ds O s.next fun r o n => r = .val d ∧ o = O' ∧ n = N) (hO : ∀ p ∈ O, getK s.obs p.1 = some p.2)
  (hf : calleeOf (opd s fop) = some (f, caps)) (hc : callable P f = true) (hds : args.map (opd s) ++ caps = ds) (hp : putOK dst s)
  (hk : k (({ s with obs := delL s.obs (O.map (·.1)) ++ O', next := N } : St).put dst d)) : CallP P Γ fop args dst s k :=
 CallP.xF (delL s.obs (O.map (·.1))) O hret (delL_heq hO) delL_none hf hc hds hp (fun d' o1 nx' _ ⟨h1, h2, h3⟩ => by cases h1; subst h2; subst h3; exact hk) (fun ch o1 nx' _ ⟨h1, _⟩ => by cases h1)
/-- A function is left behind which a deferred one is called that is handed objects. -/
theorem LeaveD.of {P : Program} {Γb : Ctx} {fn : Func} {post : Out → List (Nat × Ob) → Nat → Prop} {g : FuncId} {caps : List D} {u : FrameMode} {s : St} (O : List (Nat × Ob)) {O' : List (Nat × Ob)} (hO : ∀ p ∈ O, getK s.obs p.1 = some p.2)
  (h : RetDf P g caps O s.next u fun u' o n => settle u' = .returning ∧ n = s.next ∧ o = O') (hk : EndW P Γb fn Γb.n0 (fun d o n => post (.val d) o n) .ret { s with obs := delL s.obs (O.map (·.1)) ++ O', next := s.next }) :
  LeaveD P Γb fn post g caps u s :=
 ((h.frame (delL s.obs (O.map (·.1))) delL_none).congr (delL_heq hO)).mono fun u' o n ⟨o1, ho, hs, hn, ho1⟩ => ⟨hs, by subst ho; subst ho1; subst hn; exact hk⟩
theorem nef {i nx : Nat} (h : i < nx) : ¬ i = nx ∧ ¬ nx = i ∧ (∀ k, ¬ i = nx + k) ∧ ∀ k, ¬ nx + k = i := ⟨by omega, by omega, fun k => by omega, fun k => by omega⟩
end Go.VL
namespace Go.VL
open Go
open Go.ChangeShapes Go.WideShapes Go.ChangeAt Go.WideMaps Go.WideElems Go.RowKit
theorem law_laid {H : Type} {enc : TypeId × Value → H} {C : Checked} {os : Os} {f : FuncId} {fn : Func} {s : ChangeSpec} {conds : List PathCond} {apart fresh handsOn again : Bool} {tb : TypeId} {laid : List (String × DataW Unit)}
  (own : ownKnob C.prog.godebug = none) (started : os.Started) (noInit : C.prog.inits.idxOf? f = none) (hfn : C.prog.funcs[f]? = some fn)
  (witness : ∃ (w : World) (tape : Tape) (i : Input), w.os = os ∧ (w.forCall tape i).Shaped C.prog ∧ i.vars = [] ∧ Input.okWide C.prog (w.forCall tape i) .any w.heap.size f i ∧
    ((s.pre enc C.prog fn conds apart (w.forCall tape i).memory i.args ∧ laidMetH C.prog laid (w.forCall tape i).memory) ∧ sizedMet enc C.prog fn (OpenSpec.ofChange s) apart (w.forCall tape i).memory i.args) ∧ (({} : Assume)).holds C.prog (lone (Frame.enter C.prog f i.args .normal) [] (w.forCall tape i)))
  (hl : laidOutB C.prog = true) (hseq : seqAll C.prog = true) (hpar : (fn.params.toList.all fun t => C.prog.readableRec t && decide (t < C.prog.types.size)) = true)
  (hvars : s.vars = []) (hspec : ∀ ds : List (DataW H), ds.length = fn.params.size → s.fn H ds = { results := [.lit (.bool true)], args := ds })
  (hres : fn.resultTypes = #[tb]) (htb : C.prog.underlying tb = some .bool)
  (hfun : ∀ us : List U, ArgsU C.prog fn.params.toList us → Fun C.prog f (us.map .u) (· = .u (.bool true))) (hglob : ∀ W : World, laidMetH C.prog laid W → GlobIn (wmem W)) :
  ReturnsInHanded {} C os f .any (fun w args => (s.pre enc C.prog fn conds apart w args ∧ laidMetH C.prog laid w) ∧ sizedMet enc C.prog fn (OpenSpec.ofChange s) apart w args) (s.post enc C.prog fn apart fresh handsOn again) := by
 refine returnsInHanded_of_change_and (X := fun w _ => laidMetH C.prog laid w) (fun _ _ _ hh h => h.of_heap hh) own started noInit hfn witness ?_
 intro W base args ds gs before hval hW _ _ hL _
 have hpar' : ∀ t ∈ fn.params.toList, C.prog.readableRec t = true ∧ t < C.prog.types.size := by
  intro t ht
  have := List.all_eq_true.1 hpar t ht
  simpa using this
 have hW' := hW
 obtain ⟨p, q, hA, hV, rfl, hfz, hnd⟩ := hW
 rw [hvars] at hV
 obtain ⟨rfl, rfl⟩ := trodVars_none hV
 have hlt : ∀ x ∈ p, x.block < W.heap.size := fun x hx => hW'.lt x (by simp [hx])
 obtain ⟨us, h1, h2, _⟩ := args_rep hseq hA (fun t ht => (hpar' t ht).2) (fun j t v ht hv => hval j t v (by simpa using ht) (by simpa using hv))
 refine (calls_of_fun (hfun us h1) (hglob W hL) h2).mono ?_
 rintro e W' ⟨rfl, hb⟩
 have hdl : ds.length = fn.params.size := by
  have : ∀ {ts : List TypeId} {vs : List Value} {ds : List (DataW H)} {p : List MemPlace}, DataW.TrodAll enc C.prog W 0 (fun _ => true) true ts vs ds p → ds.length = ts.length := by
   intro ts
   induction ts with
   | nil => intro vs ds p h; cases vs <;> cases ds <;> simp_all [DataW.TrodAll]
   | cons t ts ih =>
    intro vs ds p h
    cases vs <;> cases ds <;> simp only [DataW.TrodAll] at h
    obtain ⟨p, q, _, h2, _⟩ := h
    simp [ih h2]
  simpa using this hA
 have hs := hspec ds hdl
 refine ⟨_, rfl, post_below (pa := p) (pv := []) hW' (fun b sp hd => ?_) (fun sp hsp => ?_) (fun sp _ => ?_) rfl hb (fun j t r ht hr => ?_)⟩
 ·rw [List.append_nil, hs, hres]
  exact trodAll_mk1 ⟨1, by simp [DataW.trod, Value.cells, htb]⟩
 ·rw [List.append_nil, hs]
  exact trodAll_below hl hb hpar' hA hlt fun x hx => hsp x (by simp [hx])
 ·rw [List.append_nil, hs, hvars]
  try rfl
 ·rw [hres] at ht hr
  cases j with
  | zero =>
   simp at ht
   subst ht
   simp [Value.resultList] at hr
   subst hr
   simp [Value.okWide, htb, Cell.okWide, Cell.ok]
  | succ j => simp at ht
/-- The cells of a listed array of strings. -/
theorem cells_strings {P : Program} {w : World} {n : String} {g : Nat} {t e : TypeId} {cs : Array Value} {L : List (List UInt8)} {fuel : Nat} {H : Type} {enc : TypeId × Value → H} {base : Nat} {spare : Nat → Bool} {held : Bool} {q : List MemPlace}
  (hg : P.globalNamed n = some g) (hv : w.var? P n = some cs) (ht : P.underlying t = some (.array L.length e)) (he : P.underlying e = some .string) (hc : P.cellsOf e = 1)
  (hd : DataW.trod enc P w base spare held fuel t cs.toList = some (.agg (L.map fun b => .lit (.string b)), q)) : ∀ (j : Nat) (b : List UInt8), L[j]? = some b → w.cell? ⟨g, j, none⟩ = some (.string ⟨b.toArray⟩) := by
 intro j b hj
 obtain ⟨xs, m1, rfl, hx1, hlen, hn3, hel⟩ := DataW.trod_array ht hd
 have hjl := (List.getElem?_eq_some_iff.1 hj).1
 have h := hel j hjl
 rw [hc, Nat.mul_one] at h
 simp only [Prod.mk.injEq, DataW.agg.injEq] at hx1
 obtain ⟨x, hx⟩ : ∃ x, xs[j]? = some x := ⟨_, List.getElem?_eq_getElem (by omega)⟩
 rw [hx] at h
 obtain ⟨s, h1, h2, _⟩ := DataW.trod_string he h
 have h3 : (L.map fun b => (DataW.lit (.string b) : DataW H))[j]? = (xs.map (·.1))[j]? := by rw [hx1.1]
 rw [List.getElem?_map, List.getElem?_map, hj, hx, h2] at h3
 simp only [Option.map_some, Option.some.injEq, DataW.lit.injEq, Lit.string.injEq] at h3
 have h4 : (cs.toList.drop j)[0]? = some (.string s) := by
  have : ((cs.toList.drop j).take 1)[0]? = some (.string s) := by rw [h1]; rfl
  simpa [List.getElem?_take] using this
 rw [List.getElem?_drop, Nat.add_zero] at h4
 rw [World.var?_cell hg hv j]
 rw [Array.getElem?_toList] at h4
 rw [h4, h3]
end Go.VL
namespace Go.Proofs.YtkdhmbhbbciedaaGreatDoor
open Go Go.VL
@[simp] theorem un1 : (Tryz.prog.underlying 1).isSome = true := by kernel_rfl
@[simp] theorem na1 : notArr Tryz.prog 1 = true := by kernel_rfl
@[simp] theorem st1 : isStr Tryz.prog 1 = false := by kernel_rfl
@[simp] theorem sl1 : isSl Tryz.prog 1 = false := by kernel_rfl
@[simp] theorem un2 : (Tryz.prog.underlying 2).isSome = true := by kernel_rfl
@[simp] theorem na2 : notArr Tryz.prog 2 = true := by kernel_rfl
@[simp] theorem st2 : isStr Tryz.prog 2 = false := by kernel_rfl
@[simp] theorem sl2 : isSl Tryz.prog 2 = false := by kernel_rfl
@[simp] theorem ld3 : ldSz Tryz.prog 3 = some none := by kernel_rfl
@[simp] theorem ts3 : tsz Tryz.prog 3 = some 1 := by kernel_rfl
@[simp] theorem un3 : (Tryz.prog.underlying 3).isSome = true := by kernel_rfl
@[simp] theorem na3 : notArr Tryz.prog 3 = true := by kernel_rfl
@[simp] theorem st3 : isStr Tryz.prog 3 = false := by kernel_rfl
@[simp] theorem io3 : intOfT Tryz.prog 3 = some .i64 := by kernel_rfl
@[simp] theorem zc3 : zeroC Tryz.prog 3 = some [.int .i64 0] := by kernel_rfl
@[simp] theorem sl3 : isSl Tryz.prog 3 = false := by kernel_rfl
@[simp] theorem ld4 : ldSz Tryz.prog 4 = some none := by kernel_rfl
@[simp] theorem un4 : (Tryz.prog.underlying 4).isSome = true := by kernel_rfl
@[simp] theorem na4 : notArr Tryz.prog 4 = true := by kernel_rfl
@[simp] theorem st4 : isStr Tryz.prog 4 = false := by kernel_rfl
@[simp] theorem sl4 : isSl Tryz.prog 4 = false := by kernel_rfl
@[simp] theorem un5 : (Tryz.prog.underlying 5).isSome = true := by kernel_rfl
@[simp] theorem na5 : notArr Tryz.prog 5 = true := by kernel_rfl
@[simp] theorem st5 : isStr Tryz.prog 5 = false := by kernel_rfl
@[simp] theorem sl5 : isSl Tryz.prog 5 = false := by kernel_rfl
@[simp] theorem un8 : (Tryz.prog.underlying 8).isSome = true := by kernel_rfl
@[simp] theorem na8 : notArr Tryz.prog 8 = true := by kernel_rfl
@[simp] theorem st8 : isStr Tryz.prog 8 = false := by kernel_rfl
@[simp] theorem sl8 : isSl Tryz.prog 8 = false := by kernel_rfl
@[simp] theorem ld9 : ldSz Tryz.prog 9 = some none := by kernel_rfl
@[simp] theorem ts9 : tsz Tryz.prog 9 = some 1 := by kernel_rfl
@[simp] theorem un9 : (Tryz.prog.underlying 9).isSome = true := by kernel_rfl
@[simp] theorem na9 : notArr Tryz.prog 9 = true := by kernel_rfl
@[simp] theorem st9 : isStr Tryz.prog 9 = true := by kernel_rfl
@[simp] theorem sl9 : isSl Tryz.prog 9 = false := by kernel_rfl
@[simp] theorem un20 : (Tryz.prog.underlying 20).isSome = true := by kernel_rfl
@[simp] theorem na20 : notArr Tryz.prog 20 = true := by kernel_rfl
@[simp] theorem st20 : isStr Tryz.prog 20 = false := by kernel_rfl
@[simp] theorem an20 : isAny Tryz.prog 20 = true := by kernel_rfl
@[simp] theorem sl20 : isSl Tryz.prog 20 = false := by kernel_rfl
@[simp] theorem un21 : (Tryz.prog.underlying 21).isSome = true := by kernel_rfl
@[simp] theorem na21 : notArr Tryz.prog 21 = true := by kernel_rfl
@[simp] theorem st21 : isStr Tryz.prog 21 = false := by kernel_rfl
@[simp] theorem sl21 : isSl Tryz.prog 21 = false := by kernel_rfl
@[simp] theorem ld22 : ldSz Tryz.prog 22 = some none := by kernel_rfl
@[simp] theorem un22 : (Tryz.prog.underlying 22).isSome = true := by kernel_rfl
@[simp] theorem na22 : notArr Tryz.prog 22 = true := by kernel_rfl
@[simp] theorem sf22 : stT Tryz.prog 22 = none := by kernel_rfl
@[simp] theorem st22 : isStr Tryz.prog 22 = false := by kernel_rfl
@[simp] theorem sl22 : isSl Tryz.prog 22 = true := by kernel_rfl
@[simp] theorem es22 : elSz Tryz.prog 22 = some (39, 6) := by kernel_rfl
@[simp] theorem ei22 : elInf Tryz.prog 22 = some (39, 6, 80, [.string ⟨#[]⟩, .int .i64 0, .int .i64 0, .int .i64 0, .string ⟨#[]⟩, .slice none 0 0]) := by kernel_rfl
@[simp] theorem ld23 : ldSz Tryz.prog 23 = some none := by kernel_rfl
@[simp] theorem un23 : (Tryz.prog.underlying 23).isSome = true := by kernel_rfl
@[simp] theorem na23 : notArr Tryz.prog 23 = true := by kernel_rfl
@[simp] theorem st23 : isStr Tryz.prog 23 = false := by kernel_rfl
@[simp] theorem sl23 : isSl Tryz.prog 23 = true := by kernel_rfl
@[simp] theorem es23 : elSz Tryz.prog 23 = some (25, 5) := by kernel_rfl
@[simp] theorem ei23 : elInf Tryz.prog 23 = some (25, 5, 64, [.int .i64 0, .int .i64 0, .int .i64 0, .string ⟨#[]⟩, .slice none 0 0]) := by kernel_rfl
@[simp] theorem ld25 : ldSz Tryz.prog 25 = some (some 5) := by kernel_rfl
@[simp] theorem ts25 : tsz Tryz.prog 25 = some 5 := by kernel_rfl
@[simp] theorem un25 : (Tryz.prog.underlying 25).isSome = true := by kernel_rfl
@[simp] theorem na25 : notArr Tryz.prog 25 = true := by kernel_rfl
@[simp] theorem sf25 : stT Tryz.prog 25 = some [3, 3, 3, 9, 23] := by kernel_rfl
@[simp] theorem st25 : isStr Tryz.prog 25 = false := by kernel_rfl
@[simp] theorem zc25 : zeroC Tryz.prog 25 = some [.int .i64 0, .int .i64 0, .int .i64 0, .string ⟨#[]⟩, .slice none 0 0] := by kernel_rfl
@[simp] theorem sl25 : isSl Tryz.prog 25 = false := by kernel_rfl
@[simp] theorem fl25_0 : fldAt Tryz.prog 25 0 = some (0, 1, none) := by kernel_rfl
@[simp] theorem fl25_1 : fldAt Tryz.prog 25 1 = some (1, 1, none) := by kernel_rfl
@[simp] theorem fl25_2 : fldAt Tryz.prog 25 2 = some (2, 1, none) := by kernel_rfl
@[simp] theorem fl25_3 : fldAt Tryz.prog 25 3 = some (3, 1, none) := by kernel_rfl
@[simp] theorem fl25_4 : fldAt Tryz.prog 25 4 = some (4, 1, none) := by kernel_rfl
@[simp] theorem zp25 : zp Tryz.prog 25 = some ([.int .i64 0, .int .i64 0, .int .i64 0, .string ⟨#[]⟩, .slice none 0 0], [(0, 1), (1, 1), (2, 1), (3, 1), (4, 1)]) := by kernel_rfl
@[simp] theorem ld26 : ldSz Tryz.prog 26 = some none := by kernel_rfl
@[simp] theorem ts26 : tsz Tryz.prog 26 = some 1 := by kernel_rfl
@[simp] theorem un26 : (Tryz.prog.underlying 26).isSome = true := by kernel_rfl
@[simp] theorem na26 : notArr Tryz.prog 26 = true := by kernel_rfl
@[simp] theorem st26 : isStr Tryz.prog 26 = false := by kernel_rfl
@[simp] theorem zc26 : zeroC Tryz.prog 26 = some [.slice none 0 0] := by kernel_rfl
@[simp] theorem sl26 : isSl Tryz.prog 26 = true := by kernel_rfl
@[simp] theorem es26 : elSz Tryz.prog 26 = some (44, 3) := by kernel_rfl
@[simp] theorem ei26 : elInf Tryz.prog 26 = some (44, 3, 32, [.int .i64 0, .int .i64 0, .string ⟨#[]⟩]) := by kernel_rfl
@[simp] theorem ld30 : ldSz Tryz.prog 30 = some none := by kernel_rfl
@[simp] theorem ts30 : tsz Tryz.prog 30 = some 1 := by kernel_rfl
@[simp] theorem un30 : (Tryz.prog.underlying 30).isSome = true := by kernel_rfl
@[simp] theorem na30 : notArr Tryz.prog 30 = true := by kernel_rfl
@[simp] theorem st30 : isStr Tryz.prog 30 = false := by kernel_rfl
@[simp] theorem zc30 : zeroC Tryz.prog 30 = some [.int .i64 0] := by kernel_rfl
@[simp] theorem sl30 : isSl Tryz.prog 30 = false := by kernel_rfl
@[simp] theorem un35 : (Tryz.prog.underlying 35).isSome = true := by kernel_rfl
@[simp] theorem na35 : notArr Tryz.prog 35 = true := by kernel_rfl
@[simp] theorem st35 : isStr Tryz.prog 35 = false := by kernel_rfl
@[simp] theorem sl35 : isSl Tryz.prog 35 = false := by kernel_rfl
@[simp] theorem un37 : (Tryz.prog.underlying 37).isSome = true := by kernel_rfl
@[simp] theorem na37 : notArr Tryz.prog 37 = true := by kernel_rfl
@[simp] theorem st37 : isStr Tryz.prog 37 = false := by kernel_rfl
@[simp] theorem sl37 : isSl Tryz.prog 37 = false := by kernel_rfl
@[simp] theorem ld39 : ldSz Tryz.prog 39 = some (some 6) := by kernel_rfl
@[simp] theorem ts39 : tsz Tryz.prog 39 = some 6 := by kernel_rfl
@[simp] theorem un39 : (Tryz.prog.underlying 39).isSome = true := by kernel_rfl
@[simp] theorem na39 : notArr Tryz.prog 39 = true := by kernel_rfl
@[simp] theorem sf39 : stT Tryz.prog 39 = some [9, 25] := by kernel_rfl
@[simp] theorem st39 : isStr Tryz.prog 39 = false := by kernel_rfl
@[simp] theorem zc39 : zeroC Tryz.prog 39 = some [.string ⟨#[]⟩, .int .i64 0, .int .i64 0, .int .i64 0, .string ⟨#[]⟩, .slice none 0 0] := by kernel_rfl
@[simp] theorem sl39 : isSl Tryz.prog 39 = false := by kernel_rfl
@[simp] theorem fl39_0 : fldAt Tryz.prog 39 0 = some (0, 1, none) := by kernel_rfl
@[simp] theorem fl39_1 : fldAt Tryz.prog 39 1 = some (1, 5, some 5) := by kernel_rfl
@[simp] theorem zp39 : zp Tryz.prog 39 = some ([.string ⟨#[]⟩, .int .i64 0, .int .i64 0, .int .i64 0, .string ⟨#[]⟩, .slice none 0 0], [(0, 1), (1, 5)]) := by kernel_rfl
@[simp] theorem un40 : (Tryz.prog.underlying 40).isSome = true := by kernel_rfl
@[simp] theorem na40 : notArr Tryz.prog 40 = true := by kernel_rfl
@[simp] theorem st40 : isStr Tryz.prog 40 = false := by kernel_rfl
@[simp] theorem sl40 : isSl Tryz.prog 40 = true := by kernel_rfl
@[simp] theorem es40 : elSz Tryz.prog 40 = some (3, 1) := by kernel_rfl
@[simp] theorem ei40 : elInf Tryz.prog 40 = some (3, 1, 8, [.int .i64 0]) := by kernel_rfl
@[simp] theorem ld44 : ldSz Tryz.prog 44 = some (some 3) := by kernel_rfl
@[simp] theorem ts44 : tsz Tryz.prog 44 = some 3 := by kernel_rfl
@[simp] theorem un44 : (Tryz.prog.underlying 44).isSome = true := by kernel_rfl
@[simp] theorem na44 : notArr Tryz.prog 44 = true := by kernel_rfl
@[simp] theorem st44 : isStr Tryz.prog 44 = false := by kernel_rfl
@[simp] theorem zc44 : zeroC Tryz.prog 44 = some [.int .i64 0, .int .i64 0, .string ⟨#[]⟩] := by kernel_rfl
@[simp] theorem sl44 : isSl Tryz.prog 44 = false := by kernel_rfl
@[simp] theorem se44 : stEq Tryz.prog 44 = some [.int, .int, .str] := by kernel_rfl
@[simp] theorem fl44_0 : fldAt Tryz.prog 44 0 = some (0, 1, none) := by kernel_rfl
@[simp] theorem fl44_1 : fldAt Tryz.prog 44 1 = some (1, 1, none) := by kernel_rfl
@[simp] theorem fl44_2 : fldAt Tryz.prog 44 2 = some (2, 1, none) := by kernel_rfl
@[simp] theorem zp44 : zp Tryz.prog 44 = some ([.int .i64 0, .int .i64 0, .string ⟨#[]⟩], [(0, 1), (1, 1), (2, 1)]) := by kernel_rfl
@[simp] theorem un58 : (Tryz.prog.underlying 58).isSome = true := by kernel_rfl
@[simp] theorem na58 : notArr Tryz.prog 58 = true := by kernel_rfl
@[simp] theorem st58 : isStr Tryz.prog 58 = false := by kernel_rfl
@[simp] theorem sl58 : isSl Tryz.prog 58 = true := by kernel_rfl
@[simp] theorem es58 : elSz Tryz.prog 58 = some (9, 1) := by kernel_rfl
@[simp] theorem ei58 : elInf Tryz.prog 58 = some (9, 1, 16, [.string ⟨#[]⟩]) := by kernel_rfl
@[simp] theorem un59 : (Tryz.prog.underlying 59).isSome = true := by kernel_rfl
@[simp] theorem na59 : notArr Tryz.prog 59 = true := by kernel_rfl
@[simp] theorem st59 : isStr Tryz.prog 59 = false := by kernel_rfl
@[simp] theorem sl59 : isSl Tryz.prog 59 = false := by kernel_rfl
@[simp] theorem un61 : (Tryz.prog.underlying 61).isSome = true := by kernel_rfl
@[simp] theorem na61 : notArr Tryz.prog 61 = true := by kernel_rfl
@[simp] theorem st61 : isStr Tryz.prog 61 = false := by kernel_rfl
@[simp] theorem sl61 : isSl Tryz.prog 61 = false := by kernel_rfl
@[simp] theorem ld62 : ldSz Tryz.prog 62 = some none := by kernel_rfl
@[simp] theorem ts62 : tsz Tryz.prog 62 = some 1 := by kernel_rfl
@[simp] theorem un62 : (Tryz.prog.underlying 62).isSome = true := by kernel_rfl
@[simp] theorem na62 : notArr Tryz.prog 62 = true := by kernel_rfl
@[simp] theorem st62 : isStr Tryz.prog 62 = false := by kernel_rfl
@[simp] theorem sl62 : isSl Tryz.prog 62 = true := by kernel_rfl
@[simp] theorem es62 : elSz Tryz.prog 62 = some (4, 1) := by kernel_rfl
@[simp] theorem ei62 : elInf Tryz.prog 62 = some (4, 1, 1, [.bool false]) := by kernel_rfl
@[simp] theorem un64 : (Tryz.prog.underlying 64).isSome = true := by kernel_rfl
@[simp] theorem na64 : notArr Tryz.prog 64 = true := by kernel_rfl
@[simp] theorem st64 : isStr Tryz.prog 64 = false := by kernel_rfl
@[simp] theorem sl64 : isSl Tryz.prog 64 = false := by kernel_rfl
@[simp] theorem fl64_0 : fldAt Tryz.prog 64 0 = some (0, 1, none) := by kernel_rfl
@[simp] theorem fl64_1 : fldAt Tryz.prog 64 1 = some (1, 1, none) := by kernel_rfl
@[simp] theorem fl64_2 : fldAt Tryz.prog 64 2 = some (2, 1, none) := by kernel_rfl
@[simp] theorem zp64 : zp Tryz.prog 64 = some ([.slice none 0 0, .slice none 0 0, .slice none 0 0], [(0, 1), (1, 1), (2, 1)]) := by kernel_rfl
@[simp] theorem un69 : (Tryz.prog.underlying 69).isSome = true := by kernel_rfl
@[simp] theorem na69 : notArr Tryz.prog 69 = true := by kernel_rfl
@[simp] theorem st69 : isStr Tryz.prog 69 = false := by kernel_rfl
@[simp] theorem sl69 : isSl Tryz.prog 69 = false := by kernel_rfl
@[simp] theorem un70 : (Tryz.prog.underlying 70).isSome = true := by kernel_rfl
@[simp] theorem na70 : notArr Tryz.prog 70 = true := by kernel_rfl
@[simp] theorem st70 : isStr Tryz.prog 70 = false := by kernel_rfl
@[simp] theorem sl70 : isSl Tryz.prog 70 = false := by kernel_rfl
@[simp] theorem un76 : (Tryz.prog.underlying 76).isSome = true := by kernel_rfl
@[simp] theorem na76 : notArr Tryz.prog 76 = false := by kernel_rfl
@[simp] theorem st76 : isStr Tryz.prog 76 = false := by kernel_rfl
@[simp] theorem ar76 : arr1 Tryz.prog 76 = some 15 := by kernel_rfl
@[simp] theorem sl76 : isSl Tryz.prog 76 = false := by kernel_rfl
@[simp] theorem un78 : (Tryz.prog.underlying 78).isSome = true := by kernel_rfl
@[simp] theorem na78 : notArr Tryz.prog 78 = true := by kernel_rfl
@[simp] theorem st78 : isStr Tryz.prog 78 = false := by kernel_rfl
@[simp] theorem sl78 : isSl Tryz.prog 78 = false := by kernel_rfl
@[simp] theorem un85 : (Tryz.prog.underlying 85).isSome = true := by kernel_rfl
@[simp] theorem na85 : notArr Tryz.prog 85 = true := by kernel_rfl
@[simp] theorem st85 : isStr Tryz.prog 85 = false := by kernel_rfl
@[simp] theorem sl85 : isSl Tryz.prog 85 = false := by kernel_rfl
@[simp] theorem ld86 : ldSz Tryz.prog 86 = some none := by kernel_rfl
@[simp] theorem ts86 : tsz Tryz.prog 86 = some 1 := by kernel_rfl
@[simp] theorem un86 : (Tryz.prog.underlying 86).isSome = true := by kernel_rfl
@[simp] theorem na86 : notArr Tryz.prog 86 = true := by kernel_rfl
@[simp] theorem st86 : isStr Tryz.prog 86 = false := by kernel_rfl
@[simp] theorem sl86 : isSl Tryz.prog 86 = true := by kernel_rfl
@[simp] theorem un88 : (Tryz.prog.underlying 88).isSome = true := by kernel_rfl
@[simp] theorem na88 : notArr Tryz.prog 88 = true := by kernel_rfl
@[simp] theorem st88 : isStr Tryz.prog 88 = false := by kernel_rfl
@[simp] theorem zc88 : zeroC Tryz.prog 88 = some [.pointer none, .slice none 0 0] := by kernel_rfl
@[simp] theorem sl88 : isSl Tryz.prog 88 = false := by kernel_rfl
@[simp] theorem fl88_1 : fldAt Tryz.prog 88 1 = some (1, 1, none) := by kernel_rfl
@[simp] theorem un118 : (Tryz.prog.underlying 118).isSome = true := by kernel_rfl
@[simp] theorem na118 : notArr Tryz.prog 118 = true := by kernel_rfl
@[simp] theorem st118 : isStr Tryz.prog 118 = false := by kernel_rfl
@[simp] theorem sl118 : isSl Tryz.prog 118 = false := by kernel_rfl
@[simp] theorem ld139 : ldSz Tryz.prog 139 = some none := by kernel_rfl
@[simp] theorem un139 : (Tryz.prog.underlying 139).isSome = true := by kernel_rfl
@[simp] theorem na139 : notArr Tryz.prog 139 = true := by kernel_rfl
@[simp] theorem st139 : isStr Tryz.prog 139 = false := by kernel_rfl
@[simp] theorem sl139 : isSl Tryz.prog 139 = false := by kernel_rfl
@[simp] theorem un143 : (Tryz.prog.underlying 143).isSome = true := by kernel_rfl
@[simp] theorem na143 : notArr Tryz.prog 143 = true := by kernel_rfl
@[simp] theorem st143 : isStr Tryz.prog 143 = false := by kernel_rfl
@[simp] theorem sl143 : isSl Tryz.prog 143 = false := by kernel_rfl
@[simp] theorem un144 : (Tryz.prog.underlying 144).isSome = true := by kernel_rfl
@[simp] theorem na144 : notArr Tryz.prog 144 = true := by kernel_rfl
@[simp] theorem st144 : isStr Tryz.prog 144 = false := by kernel_rfl
@[simp] theorem sl144 : isSl Tryz.prog 144 = false := by kernel_rfl
@[simp] theorem ld148 : ldSz Tryz.prog 148 = some (some 4) := by kernel_rfl
@[simp] theorem ts148 : tsz Tryz.prog 148 = some 4 := by kernel_rfl
@[simp] theorem un148 : (Tryz.prog.underlying 148).isSome = true := by kernel_rfl
@[simp] theorem na148 : notArr Tryz.prog 148 = true := by kernel_rfl
@[simp] theorem st148 : isStr Tryz.prog 148 = false := by kernel_rfl
@[simp] theorem zc148 : zeroC Tryz.prog 148 = some [.int .i64 0, .string ⟨#[]⟩, .int .i64 0, .int .i64 0] := by kernel_rfl
@[simp] theorem sl148 : isSl Tryz.prog 148 = false := by kernel_rfl
@[simp] theorem fl148_0 : fldAt Tryz.prog 148 0 = some (0, 1, none) := by kernel_rfl
@[simp] theorem fl148_1 : fldAt Tryz.prog 148 1 = some (1, 1, none) := by kernel_rfl
@[simp] theorem fl148_2 : fldAt Tryz.prog 148 2 = some (2, 1, none) := by kernel_rfl
@[simp] theorem fl148_3 : fldAt Tryz.prog 148 3 = some (3, 1, none) := by kernel_rfl
@[simp] theorem zp148 : zp Tryz.prog 148 = some ([.int .i64 0, .string ⟨#[]⟩, .int .i64 0, .int .i64 0], [(0, 1), (1, 1), (2, 1), (3, 1)]) := by kernel_rfl
@[simp] theorem un166 : (Tryz.prog.underlying 166).isSome = true := by kernel_rfl
@[simp] theorem na166 : notArr Tryz.prog 166 = true := by kernel_rfl
@[simp] theorem st166 : isStr Tryz.prog 166 = false := by kernel_rfl
@[simp] theorem sl166 : isSl Tryz.prog 166 = false := by kernel_rfl
@[simp] theorem ld173 : ldSz Tryz.prog 173 = some none := by kernel_rfl
@[simp] theorem un173 : (Tryz.prog.underlying 173).isSome = true := by kernel_rfl
@[simp] theorem na173 : notArr Tryz.prog 173 = true := by kernel_rfl
@[simp] theorem st173 : isStr Tryz.prog 173 = false := by kernel_rfl
@[simp] theorem sl173 : isSl Tryz.prog 173 = true := by kernel_rfl
@[simp] theorem es173 : elSz Tryz.prog 173 = some (148, 4) := by kernel_rfl
@[simp] theorem ei173 : elInf Tryz.prog 173 = some (148, 4, 40, [.int .i64 0, .string ⟨#[]⟩, .int .i64 0, .int .i64 0]) := by kernel_rfl
@[simp] theorem un177 : (Tryz.prog.underlying 177).isSome = true := by kernel_rfl
@[simp] theorem na177 : notArr Tryz.prog 177 = true := by kernel_rfl
@[simp] theorem st177 : isStr Tryz.prog 177 = false := by kernel_rfl
@[simp] theorem sl177 : isSl Tryz.prog 177 = false := by kernel_rfl
@[simp] theorem fl177_0 : fldAt Tryz.prog 177 0 = some (0, 1, none) := by kernel_rfl
@[simp] theorem fl177_1 : fldAt Tryz.prog 177 1 = some (1, 1, none) := by kernel_rfl
@[simp] theorem zp177 : zp Tryz.prog 177 = some ([.slice none 0 0, .int .i64 0], [(0, 1), (1, 1)]) := by kernel_rfl
@[simp] theorem ts179 : tsz Tryz.prog 179 = some 2 := by kernel_rfl
@[simp] theorem un179 : (Tryz.prog.underlying 179).isSome = true := by kernel_rfl
@[simp] theorem na179 : notArr Tryz.prog 179 = true := by kernel_rfl
@[simp] theorem st179 : isStr Tryz.prog 179 = false := by kernel_rfl
@[simp] theorem ni179 : notIf Tryz.prog 179 = true := by kernel_rfl
@[simp] theorem zc179 : zeroC Tryz.prog 179 = some [.int .i64 0, .int .i64 0] := by kernel_rfl
@[simp] theorem sl179 : isSl Tryz.prog 179 = false := by kernel_rfl
@[simp] theorem fl179_0 : fldAt Tryz.prog 179 0 = some (0, 1, none) := by kernel_rfl
@[simp] theorem fl179_1 : fldAt Tryz.prog 179 1 = some (1, 1, none) := by kernel_rfl
@[simp] theorem zp179 : zp Tryz.prog 179 = some ([.int .i64 0, .int .i64 0], [(0, 1), (1, 1)]) := by kernel_rfl
@[simp] theorem un184 : (Tryz.prog.underlying 184).isSome = true := by kernel_rfl
@[simp] theorem na184 : notArr Tryz.prog 184 = true := by kernel_rfl
@[simp] theorem st184 : isStr Tryz.prog 184 = false := by kernel_rfl
@[simp] theorem sl184 : isSl Tryz.prog 184 = true := by kernel_rfl
@[simp] theorem es184 : elSz Tryz.prog 184 = some (186, 3) := by kernel_rfl
@[simp] theorem ei184 : elInf Tryz.prog 184 = some (186, 3, 32, [.string ⟨#[]⟩, .int .i64 0, .int .i64 0]) := by kernel_rfl
@[simp] theorem ld186 : ldSz Tryz.prog 186 = some (some 3) := by kernel_rfl
@[simp] theorem ts186 : tsz Tryz.prog 186 = some 3 := by kernel_rfl
@[simp] theorem un186 : (Tryz.prog.underlying 186).isSome = true := by kernel_rfl
@[simp] theorem na186 : notArr Tryz.prog 186 = true := by kernel_rfl
@[simp] theorem st186 : isStr Tryz.prog 186 = false := by kernel_rfl
@[simp] theorem zc186 : zeroC Tryz.prog 186 = some [.string ⟨#[]⟩, .int .i64 0, .int .i64 0] := by kernel_rfl
@[simp] theorem sl186 : isSl Tryz.prog 186 = false := by kernel_rfl
@[simp] theorem fl186_0 : fldAt Tryz.prog 186 0 = some (0, 1, none) := by kernel_rfl
@[simp] theorem fl186_1 : fldAt Tryz.prog 186 1 = some (1, 1, none) := by kernel_rfl
@[simp] theorem fl186_2 : fldAt Tryz.prog 186 2 = some (2, 1, none) := by kernel_rfl
@[simp] theorem zp186 : zp Tryz.prog 186 = some ([.string ⟨#[]⟩, .int .i64 0, .int .i64 0], [(0, 1), (1, 1), (2, 1)]) := by kernel_rfl
@[simp] theorem un188 : (Tryz.prog.underlying 188).isSome = true := by kernel_rfl
@[simp] theorem na188 : notArr Tryz.prog 188 = true := by kernel_rfl
@[simp] theorem st188 : isStr Tryz.prog 188 = false := by kernel_rfl
@[simp] theorem sl188 : isSl Tryz.prog 188 = false := by kernel_rfl
@[simp] theorem un199 : (Tryz.prog.underlying 199).isSome = true := by kernel_rfl
@[simp] theorem na199 : notArr Tryz.prog 199 = true := by kernel_rfl
@[simp] theorem st199 : isStr Tryz.prog 199 = false := by kernel_rfl
@[simp] theorem sl199 : isSl Tryz.prog 199 = false := by kernel_rfl
@[simp] theorem ld226 : ldSz Tryz.prog 226 = some (some 11) := by kernel_rfl
@[simp] theorem un226 : (Tryz.prog.underlying 226).isSome = true := by kernel_rfl
@[simp] theorem na226 : notArr Tryz.prog 226 = false := by kernel_rfl
@[simp] theorem st226 : isStr Tryz.prog 226 = false := by kernel_rfl
@[simp] theorem ar226 : arr1 Tryz.prog 226 = some 11 := by kernel_rfl
@[simp] theorem sl226 : isSl Tryz.prog 226 = false := by kernel_rfl
@[simp] theorem ca4 : callable Tryz.prog 4 = true := by kernel_rfl
@[simp] theorem ca9 : callable Tryz.prog 9 = true := by kernel_rfl
@[simp] theorem ca10 : callable Tryz.prog 10 = true := by kernel_rfl
@[simp] theorem ca12 : callable Tryz.prog 12 = true := by kernel_rfl
@[simp] theorem ca14 : callable Tryz.prog 14 = true := by kernel_rfl
@[simp] theorem ca16 : callable Tryz.prog 16 = true := by kernel_rfl
@[simp] theorem ca17 : callable Tryz.prog 17 = true := by kernel_rfl
@[simp] theorem ca19 : callable Tryz.prog 19 = true := by kernel_rfl
@[simp] theorem ca21 : callable Tryz.prog 21 = true := by kernel_rfl
@[simp] theorem ca22 : callable Tryz.prog 22 = true := by kernel_rfl
@[simp] theorem ca23 : callable Tryz.prog 23 = true := by kernel_rfl
@[simp] theorem ca26 : callable Tryz.prog 26 = true := by kernel_rfl
@[simp] theorem ca29 : callable Tryz.prog 29 = true := by kernel_rfl
@[simp] theorem ca32 : callable Tryz.prog 32 = true := by kernel_rfl
@[simp] theorem ca33 : callable Tryz.prog 33 = true := by kernel_rfl
@[simp] theorem ca34 : callable Tryz.prog 34 = true := by kernel_rfl
@[simp] theorem ca35 : callable Tryz.prog 35 = true := by kernel_rfl
@[simp] theorem ca36 : callable Tryz.prog 36 = true := by kernel_rfl
@[simp] theorem ca37 : callable Tryz.prog 37 = true := by kernel_rfl
@[simp] theorem ca38 : callable Tryz.prog 38 = true := by kernel_rfl
@[simp] theorem ca41 : callable Tryz.prog 41 = true := by kernel_rfl
@[simp] theorem ca42 : callable Tryz.prog 42 = true := by kernel_rfl
@[simp] theorem ca43 : callable Tryz.prog 43 = true := by kernel_rfl
@[simp] theorem ca44 : callable Tryz.prog 44 = true := by kernel_rfl
@[simp] theorem ca47 : callable Tryz.prog 47 = true := by kernel_rfl
@[simp] theorem ca48 : callable Tryz.prog 48 = true := by kernel_rfl
@[simp] theorem ca50 : callable Tryz.prog 50 = true := by kernel_rfl
@[simp] theorem ca54 : callable Tryz.prog 54 = true := by kernel_rfl
@[simp] theorem ca55 : callable Tryz.prog 55 = true := by kernel_rfl
@[simp] theorem ca56 : callable Tryz.prog 56 = true := by kernel_rfl
@[simp] theorem ca57 : callable Tryz.prog 57 = true := by kernel_rfl
@[simp] theorem ca58 : callable Tryz.prog 58 = true := by kernel_rfl
@[simp] theorem ca62 : callable Tryz.prog 62 = true := by kernel_rfl
@[simp] theorem ca64 : callable Tryz.prog 64 = true := by kernel_rfl
@[simp] theorem ca65 : callable Tryz.prog 65 = true := by kernel_rfl
@[simp] theorem ca66 : callable Tryz.prog 66 = true := by kernel_rfl
@[simp] theorem ca67 : callable Tryz.prog 67 = true := by kernel_rfl
@[simp] theorem ca68 : callable Tryz.prog 68 = true := by kernel_rfl
@[simp] theorem ca75 : callable Tryz.prog 75 = true := by kernel_rfl
@[simp] theorem ca76 : callable Tryz.prog 76 = true := by kernel_rfl
@[simp] theorem ca77 : callable Tryz.prog 77 = true := by kernel_rfl
@[simp] theorem ca82 : callable Tryz.prog 82 = true := by kernel_rfl
@[simp] theorem ca84 : callable Tryz.prog 84 = true := by kernel_rfl
@[simp] theorem ca86 : callable Tryz.prog 86 = true := by kernel_rfl
@[simp] theorem ca87 : callable Tryz.prog 87 = true := by kernel_rfl
@[simp] theorem ca88 : callable Tryz.prog 88 = true := by kernel_rfl
@[simp] theorem ca89 : callable Tryz.prog 89 = true := by kernel_rfl
@[simp] theorem ca103 : callable Tryz.prog 103 = true := by kernel_rfl
@[simp] theorem ca104 : callable Tryz.prog 104 = true := by kernel_rfl
@[simp] theorem ca105 : callable Tryz.prog 105 = true := by kernel_rfl
@[simp] theorem ca106 : callable Tryz.prog 106 = true := by kernel_rfl
@[simp] theorem ca107 : callable Tryz.prog 107 = true := by kernel_rfl
@[simp] theorem ca108 : callable Tryz.prog 108 = true := by kernel_rfl
@[simp] theorem ca109 : callable Tryz.prog 109 = true := by kernel_rfl
@[simp] theorem ca110 : callable Tryz.prog 110 = true := by kernel_rfl
@[simp] theorem ca111 : callable Tryz.prog 111 = true := by kernel_rfl
@[simp] theorem ca115 : callable Tryz.prog 115 = true := by kernel_rfl
@[simp] theorem ca117 : callable Tryz.prog 117 = true := by kernel_rfl
@[simp] theorem ca118 : callable Tryz.prog 118 = true := by kernel_rfl
@[simp] theorem ca119 : callable Tryz.prog 119 = true := by kernel_rfl
@[simp] theorem ca126 : callable Tryz.prog 126 = true := by kernel_rfl
@[simp] theorem ca127 : callable Tryz.prog 127 = true := by kernel_rfl
@[simp] theorem ca128 : callable Tryz.prog 128 = true := by kernel_rfl
@[simp] theorem ca131 : callable Tryz.prog 131 = true := by kernel_rfl
@[simp] theorem ca132 : callable Tryz.prog 132 = true := by kernel_rfl
@[simp] theorem ca133 : callable Tryz.prog 133 = true := by kernel_rfl
@[simp] theorem ca138 : callable Tryz.prog 138 = true := by kernel_rfl
@[simp] theorem ca139 : callable Tryz.prog 139 = true := by kernel_rfl
@[simp] theorem ca140 : callable Tryz.prog 140 = true := by kernel_rfl
@[simp] theorem ca141 : callable Tryz.prog 141 = true := by kernel_rfl
@[simp] theorem ca142 : callable Tryz.prog 142 = true := by kernel_rfl
@[simp] theorem ca143 : callable Tryz.prog 143 = true := by kernel_rfl
@[simp] theorem ca145 : callable Tryz.prog 145 = true := by kernel_rfl
@[simp] theorem ca154 : callable Tryz.prog 154 = true := by kernel_rfl
@[simp] theorem ca155 : callable Tryz.prog 155 = true := by kernel_rfl
@[simp] theorem ca156 : callable Tryz.prog 156 = true := by kernel_rfl
@[simp] theorem ca157 : callable Tryz.prog 157 = true := by kernel_rfl
@[simp] theorem ca159 : callable Tryz.prog 159 = true := by kernel_rfl
@[simp] theorem ca160 : callable Tryz.prog 160 = true := by kernel_rfl
@[simp] theorem ca166 : callable Tryz.prog 166 = true := by kernel_rfl
@[simp] theorem ca167 : callable Tryz.prog 167 = true := by kernel_rfl
@[simp] theorem ca168 : callable Tryz.prog 168 = true := by kernel_rfl
@[simp] theorem ca169 : callable Tryz.prog 169 = true := by kernel_rfl
@[simp] theorem ca170 : callable Tryz.prog 170 = true := by kernel_rfl
@[simp] theorem ca180 : callable Tryz.prog 180 = true := by kernel_rfl
@[simp] theorem ca181 : callable Tryz.prog 181 = true := by kernel_rfl
@[simp] theorem ca182 : callable Tryz.prog 182 = true := by kernel_rfl
@[simp] theorem ca183 : callable Tryz.prog 183 = true := by kernel_rfl
@[simp] theorem ca189 : callable Tryz.prog 189 = true := by kernel_rfl
end Go.Proofs.YtkdhmbhbbciedaaGreatDoor
namespace Go.VL
open Go
section
theorem cg_arith {k n n' ret q} (_ : (True ∧ True) = q) (h0 : n = n') : arith k n ret = arith k n' ret := by rw [h0]
theorem cg_binI {op k a b a' b' ret q} (_ : (True ∧ True) = q) (h0 : a = a') (h1 : b = b') : binI op k a b ret = binI op k a' b' ret := by rw [h0, h1]
theorem cg_binS {op a b a' b' ret q} (_ : (True ∧ True) = q) (h0 : a = a') (h1 : b = b') : binS op a b ret = binS op a' b' ret := by rw [h0, h1]
theorem cg_binB {P op t a b a' b' ret q} (_ : (True ∧ True) = q) (h0 : a = a') (h1 : b = b') : binB P op t a b ret = binB P op t a' b' ret := by rw [h0, h1]
theorem cg_shiftI {op k a b a' b' ret q} (_ : (True ∧ True) = q) (h0 : a = a') (h1 : b = b') : shiftI op k a b ret = shiftI op k a' b' ret := by rw [h0, h1]
theorem cg_nilD {op b b' ret q} (_ : (True ∧ True) = q) (h0 : b = b') : nilD op b ret = nilD op b' ret := by rw [h0]
theorem cg_aggD {P op t x y x' y' ret q} (_ : (True ∧ True) = q) (h0 : x = x') (h1 : y = y') : aggD P op t x y ret = aggD P op t x' y' ret := by rw [h0, h1]
theorem cg_binD {P op t x y x' y' ret q} (_ : (True ∧ True) = q) (h0 : x = x') (h1 : y = y') : binD P op t x y ret = binD P op t x' y' ret := by rw [h0, h1]
theorem cg_unD {op x x' ret q} (_ : (True ∧ True) = q) (h0 : x = x') : unD op x ret = unD op x' ret := by rw [h0]
theorem cg_loadD {P s t x x' ret q} (_ : (True ∧ True) = q) (h0 : x = x') : loadD P s t x ret = loadD P s t x' ret := by rw [h0]
theorem cg_fieldAddrD {P t x f x' ret q} (_ : (True ∧ True) = q) (h0 : x = x') : fieldAddrD P t x f ret = fieldAddrD P t x' f ret := by rw [h0]
theorem cg_fieldD {P t x f x' ret q} (_ : (True ∧ True) = q) (h0 : x = x') : fieldD P t x f ret = fieldD P t x' f ret := by rw [h0]
theorem cg_indexSlD {P s t x i x' i' ret q} (_ : (True ∧ True) = q) (h0 : x = x') (h1 : i = i') : indexSlD P s t x i ret = indexSlD P s t x' i' ret := by rw [h0, h1]
theorem cg_arrAddr {P t i i' ret q} (_ : (True ∧ True) = q) (h0 : i = i') : arrAddr P t i ret = arrAddr P t i' ret := by rw [h0]
theorem cg_indexAddrD {P s t x i x' i' ret q} (_ : (True ∧ True) = q) (h0 : x = x') (h1 : i = i') : indexAddrD P s t x i ret = indexAddrD P s t x' i' ret := by rw [h0, h1]
theorem cg_indexD {P t x i x' i' ret q} (_ : (True ∧ True) = q) (h0 : x = x') (h1 : i = i') : indexD P t x i ret = indexD P t x' i' ret := by rw [h0, h1]
theorem cg_cutD {n lo hi n' lo' hi' ret q} (_ : (True ∧ True) = q) (h0 : n = n') (h1 : lo = lo') (h2 : hi = hi') : cutD n lo hi ret = cutD n' lo' hi' ret := by rw [h0, h1, h2]
theorem cg_sliceD {P s t x lo hi x' lo' hi' ret q} (_ : (True ∧ True) = q) (h0 : x = x') (h1 : lo = lo') (h2 : hi = hi') : sliceD P s t x lo hi ret = sliceD P s t x' lo' hi' ret := by rw [h0, h1, h2]
theorem cg_fillD {p a c a' c' ret q} (_ : (True ∧ True) = q) (h0 : a = a') (h1 : c = c') : fillD p a c ret = fillD p a' c' ret := by rw [h0, h1]
theorem cg_buildD {P t a a' ret q} (_ : (True ∧ True) = q) (h0 : a = a') : buildD P t a ret = buildD P t a' ret := by rw [h0]
theorem cg_lenD {P s t x x' ret q} (_ : (True ∧ True) = q) (h0 : x = x') : lenD P s t x ret = lenD P s t x' ret := by rw [h0]
theorem cg_minmaxD {b l l' ret q} (_ : (True ∧ True) = q) (h0 : l = l') : minmaxD b l ret = minmaxD b l' ret := by rw [h0]
theorem cg_lookD {P s t x i ok x' i' ret q} (_ : (True ∧ True) = q) (h0 : x = x') (h1 : i = i') : lookD P s t x i ok ret = lookD P s t x' i' ok ret := by rw [h0, h1]
theorem cg_lookR {ag z r ok r' ret q} (_ : (True ∧ True) = q) (h0 : r = r') : lookR ag z r ok ret = lookR ag z r' ok ret := by rw [h0]
theorem cg_convD {P a b x x' ret q} (_ : (True ∧ True) = q) (h0 : x = x') : convD P a b x ret = convD P a b x' ret := by rw [h0]
theorem cg_nilCheckD {x x' ret q} (_ : (True ∧ True) = q) (h0 : x = x') : nilCheckD x ret = nilCheckD x' ret := by rw [h0]
theorem cg_makeFuncD {f a b a' b' ret q} (_ : (True ∧ True) = q) (h0 : a = a') (h1 : b = b') : makeFuncD f a b ret = makeFuncD f a' b' ret := by rw [h0, h1]
theorem cg_makeIfD {P t x x' ret q} (_ : (True ∧ True) = q) (h0 : x = x') : makeIfD P t x ret = makeIfD P t x' ret := by rw [h0]
theorem cg_typeAssertD {P x t ok x' ret q} (_ : (True ∧ True) = q) (h0 : x = x') : typeAssertD P x t ok ret = typeAssertD P x' t ok ret := by rw [h0]
theorem cg_evPure {P s op s' ret q} (_ : (True ∧ True) = q) (h0 : s = s') : evPure P s op ret = evPure P s' op ret := by rw [h0]
theorem cg_allocD {P t s d ret q} (_ : (True ∧ True) = q)  : allocD P t s d ret = allocD P t s d ret := by rfl
theorem cg_boxD {x s d x' ret q} (_ : (True ∧ True) = q) (h0 : x = x') : boxD x s d ret = boxD x' s d ret := by rw [h0]
theorem cg_storeD {P t a x s a' x' ret q} (_ : (True ∧ True) = q) (h0 : a = a') (h1 : x = x') : storeD P t a x s ret = storeD P t a' x' s ret := by rw [h0, h1]
theorem cg_buildSliceD {P t n a s d a' ret q} (_ : (True ∧ True) = q) (h0 : a = a') : buildSliceD P t n a s d ret = buildSliceD P t n a' s d ret := by rw [h0]
theorem cg_appendD {P t x y s d x' y' ret q} (_ : (True ∧ True) = q) (h0 : x = x') (h1 : y = y') : appendD P t x y s d ret = appendD P t x' y' s d ret := by rw [h0, h1]
theorem cg_makeD {P t x y s d x' y' ret q} (_ : (True ∧ True) = q) (h0 : x = x') (h1 : y = y') : makeD P t x y s d ret = makeD P t x' y' s d ret := by rw [h0, h1]
theorem cg_makeMapD {P t s d ret q} (_ : (True ∧ True) = q)  : makeMapD P t s d ret = makeMapD P t s d ret := by rfl
theorem cg_mapUpdD {P t x y z s x' y' z' ret q} (_ : (True ∧ True) = q) (h0 : x = x') (h1 : y = y') (h2 : z = z') : mapUpdD P t x y z s ret = mapUpdD P t x' y' z' s ret := by rw [h0, h1, h2]
theorem cg_rangeD {P t x s d x' ret q} (_ : (True ∧ True) = q) (h0 : x = x') : rangeD P t x s d ret = rangeD P t x' s d ret := by rw [h0]
theorem cg_nextD {x s d x' ret q} (_ : (True ∧ True) = q) (h0 : x = x') : nextD x s d ret = nextD x' s d ret := by rw [h0]
theorem cg_rangeS {P t z s d z' ret q} (_ : (True ∧ True) = q) (h0 : z = z') : rangeS P t z s d ret = rangeS P t z' s d ret := by rw [h0]
theorem cg_nextS {x s d x' ret q} (_ : (True ∧ True) = q) (h0 : x = x') : nextS x s d ret = nextS x' s d ret := by rw [h0]
theorem cg_entryD {x s x' ret q} (_ : (True ∧ True) = q) (h0 : x = x') : entryD x s ret = entryD x' s ret := by rw [h0]
theorem cg_panicD {d d' ret q} (_ : (True ∧ True) = q) (h0 : d = d') : panicD d ret = panicD d' ret := by rw [h0]
theorem cg_mapEff {P s t x y z x' y' z' ret q} (_ : (True ∧ True) = q) (h0 : x = x') (h1 : y = y') (h2 : z = z') : mapEff P s t x y z ret = mapEff P s t x' y' z' ret := by rw [h0, h1, h2]
theorem cg_effD {P s op s' ret q} (_ : (True ∧ True) = q) (h0 : s = s') : effD P s op ret = effD P s' op ret := by rw [h0]
theorem cg_valD {P s op s' ret q} (_ : (True ∧ True) = q) (h0 : s = s') : valD P s op ret = valD P s' op ret := by rw [h0]
theorem cg_hstep {P Γ d op s s' ret q} (_ : (True ∧ True) = q) (h0 : s = s') : hstep P Γ d op s ret = hstep P Γ d op s' ret := by rw [h0]
theorem cg_CallV {P s f a s' ret q} (_ : (True ∧ True) = q) (h0 : s = s') : CallV P s f a ret = CallV P s' f a ret := by rw [h0]
theorem cg_resD {P s rs s' rs' ret q} (_ : (True ∧ True) = q) (h0 : s = s') (h1 : rs = rs') : resD P s rs ret = resD P s' rs' ret := by rw [h0, h1]
theorem cg_cellsAt {α : Type} {c c' : List α} {o o' l l' f g z} (_ : (True ∧ True) = z) (h : c = c') (h1 : o = o') (h2 : l = l') : cellsAt c o l f g = cellsAt c' o' l' f g := by rw [h, h1, h2]
attribute [congr] cg_arith cg_binI cg_binS cg_binB cg_shiftI cg_nilD cg_aggD cg_binD cg_unD cg_loadD cg_fieldAddrD cg_fieldD cg_indexSlD cg_arrAddr cg_indexAddrD cg_indexD cg_cutD cg_sliceD cg_fillD cg_buildD cg_lenD cg_minmaxD cg_lookD cg_lookR cg_convD cg_nilCheckD cg_makeFuncD cg_makeIfD cg_typeAssertD cg_evPure cg_allocD cg_boxD cg_storeD cg_buildSliceD cg_appendD cg_makeD cg_makeMapD cg_mapUpdD cg_rangeD cg_nextD cg_rangeS cg_nextS cg_entryD cg_panicD cg_mapEff cg_effD cg_valD cg_hstep cg_CallV cg_resD cg_cellsAt
theorem cg_CallP {P Γ f a d s s' k z} (_ : (True ∧ True) = z) (h : s = s') : CallP P Γ f a d s k = CallP P Γ f a d s' k := by rw [h]
attribute [congr] cg_CallP
end
def Cnd (p q A B : Prop) : Prop := (p → A) ∧ (q → B)
theorem Cnd.of {p q A B : Prop} (h : p → A) (h' : q → B) : Cnd p q A B := ⟨h, h'⟩
theorem Cnd_tf {A B : Prop} : Cnd True False A B = A := by simp [Cnd]
theorem Cnd_ft {A B : Prop} : Cnd False True A B = B := by simp [Cnd]
theorem cg_Cnd {p q p' q' A B z : Prop} (_ : (True ∧ True) = z) (h : p = p') (h' : q = q') : Cnd p q A B = Cnd p' q' A B := by rw [h, h']
/-- A list of operations in order. -/
def HR (P : Program) (Γ : Ctx) : List O1 → St → (St → Prop) → Prop
 | [], s, k => k s
 | o :: r, s, k => match o.guard with
  | none => hstep P Γ o.dst o.op s fun s' => HR P Γ r s' k
  | some (t, want) => match getK s.env t with
   | some (.u (.bool b)) => putOK o.dst s ∧ Cnd (b = want) (b = !want)
         (hstep P Γ o.dst o.op (s.put (some t) (.u (.bool want))) fun s' => HR P Γ r s' k)
         (HR P Γ r ((s.put (some t) (.u (.bool (!want)))).put o.dst .un) k)
   | some (.u (.oth v)) => v = undef ∧ putOK o.dst s ∧ HR P Γ r (s.put o.dst .un) k
   | _ => False
theorem HR_G {P Γ} {all : Array Oper} {k : St → Prop} : ∀ {l : List O1} {ops : List Oper} {s}, stripL all ops = some l → HR P Γ l s k → G P Γ all ops s k
 | [], ops, s, e, h => by
  cases ops with
  | nil => exact G_nil h
  | cons x l => simp only [stripL] at e; split at e <;> simp at e
 | o :: r, ops, s, e, h => by
  obtain ⟨x, ops', rfl, hx, hr⟩ := stripL_cons e
  obtain ⟨dst, op, type, pos, after, guard⟩ := x
  unfold strip at hx
  unfold HR at h
  simp only at hx
  cases guard with
  | none =>
   simp at hx
   subst hx
   exact G_effP ((hstep_effG (o := { dst, op, type, pos, after, guard := none }) h).mono fun s' h => HR_G hr h)
  | some g =>
   obtain ⟨j, b⟩ := g
   simp only at hx
   split at hx
   ·rename_i t ht
    simp at hx
    subst hx
    simp only at h
    split at h
    ·rename_i b' hb
     obtain ⟨hp, hy, hn⟩ := h
     exact G_guard ht hb hp (fun e => G_effP ((hstep_effG (o := { dst, op, type, pos, after, guard := none }) (hy e)).mono fun s' h => HR_G hr h)) (fun e => HR_G hr (hn e))
    ·rename_i v hb
     obtain ⟨rfl, hp, hn⟩ := h
     exact G_guardU ht hb hp (HR_G hr hn)
    ·exact h.elim
   ·cases hx
theorem G_mono {P Γ all ops s} {k k' : St → Prop} (h : G P Γ all ops s k) (hk : ∀ s, k s → k' s) : G P Γ all ops s k' :=
 fun K a w h1 h2 Q hQ => h K a w h1 h2 Q fun K' a' w' s' h3 h4 h5 => hQ K' a' w' s' h3 h4 (hk _ h5)
/-- Control; what is behind: R. -/
def vs2 (P : Program) (Γ : Ctx) (Q : Exit → St → Prop) (R : Kt → Exit → St → Prop) : Code → Kt → St → Prop
 | .seq a b, k, s => vs2 P Γ Q R a (.seq b k) s
 | .block id c, k, s => vs2 P Γ Q R c (.blk id k) s
 | .skip, k, s => R k .normal s
 | .label _, k, s => R k .normal s
 | .exit id, k, s => R k (.exit id) s
 | .ret, k, s => R k .ret s
 | .cond c x y, k, s => match opd s c with
  | .u (.bool t) => Cnd (t = true) (t = false) (vs2 P Γ Q R x k s) (vs2 P Γ Q R y k s)
  | _ => False
 | .region _ l false, k, s => match stripL l l.toList with | some l' => HR P Γ l' s (R k .normal) | none => False
 | c, k, s => V P Γ c s (RunK P Γ Q k)
theorem vs2_V {P Γ Q} {R : Kt → Exit → St → Prop} (hR : ∀ k e s, R k e s → RunK P Γ Q k e s) : ∀ {c : Code} {k : Kt} {s : St}, vs2 P Γ Q R c k s → V P Γ c s (RunK P Γ Q k)
 | .seq a b, k, s, h => V_seq (vs2_V hR (c := a) (by rw [vs2] at h; exact h))
 | .block id c, k, s, h => V_block (vs2_V hR (c := c) (by rw [vs2] at h; exact h))
 | .skip, k, s, h => V_skip (hR _ _ _ (by rw [vs2] at h; exact h))
 | .label _, k, s, h => V_label (hR _ _ _ (by rw [vs2] at h; exact h))
 | .exit id, k, s, h => V_exit (hR _ _ _ (by rw [vs2] at h; exact h))
 | .ret, k, s, h => V_ret (hR _ _ _ (by rw [vs2] at h; exact h))
 | .cond c x y, k, s, h => by
  rw [vs2] at h
  split at h
  ·rename_i t ht
   exact V_cond ht (fun e => vs2_V hR (h.1 e)) (fun e => vs2_V hR (h.2 e))
  ·exact h.elim
 | .region id l false, k, s, h => by
  rw [vs2] at h
  have := V_region1 (P := P) (Γ := Γ) (s := s) (Q := Q) (kt := k) (id := id) (l := l.toList) fun K hK => by
   split at h
   ·rename_i l' hl
    simp only [Array.toArray_toList]
    try rw [hl]
    exact fun all ops e => G_mono (HR_G e h) fun s hs => hK _ (hR _ _ _ hs)
   ·exact h.elim
  simpa using this
 | .region _ _ true, k, s, h => by rw [vs2] at h; exact h; all_goals simp
 | .loop c, k, s, h => by rw [vs2] at h; exact h; all_goals simp
 | .rangeFunc .., k, s, h => by rw [vs2] at h; exact h; all_goals simp
 | .scope .., k, s, h => by rw [vs2] at h; exact h; all_goals simp
 | .goto .., k, s, h => by rw [vs2] at h; exact h; all_goals simp
 | .refuse .., k, s, h => by rw [vs2] at h; exact h; all_goals simp
/-- What is behind, az far az n statements. -/
def RN (P : Program) (Γ : Ctx) (Q : Exit → St → Prop) : Nat → Kt → Exit → St → Prop
 | 0, k, e, s => RunK P Γ Q k e s
 | _ + 1, .done, e, s => Q e s
 | n + 1, .seq b k, .normal, s => vs2 P Γ Q (RN P Γ Q n) b k s
 | n + 1, .seq _ k, e, s => RN P Γ Q n k e s
 | n + 1, .blk id k, .exit id', s => if id' = id then RN P Γ Q n k .normal s else RN P Γ Q n k (.exit id') s
 | n + 1, .blk _ k, e, s => RN P Γ Q n k e s
 | _ + 1, .loop I _, .normal, s => I s
 | n + 1, .loop _ k, e, s => RN P Γ Q n k e s
theorem RN_K {P Γ Q} : ∀ n k e s, RN P Γ Q n k e s → RunK P Γ Q k e s
 | 0, _, _, _, h => h
 | n + 1, k, e, s, h => by
  have ih := RN_K (P := P) (Γ := Γ) (Q := Q) n
  cases k <;> cases e <;> simp only [RN, RunK] at h ⊢ <;> first | exact h | exact ih _ _ _ h | exact vs2_V ih h | (split at h <;> rename_i hc <;> first | (rw [if_pos hc]; exact ih _ _ _ h) | (rw [if_neg hc]; exact ih _ _ _ h))
/-- Code that is walked by itself (no loop, nothing drawn). -/
def own1 : Code → Bool
 | .loop _ | .rangeFunc .. | .scope .. | .region _ _ true => false
 | _ => true
theorem V_run {P Γ Q c k s} (_ : own1 c = true) (h : vs2 P Γ Q (RN P Γ Q 8) c k s) : V P Γ c s (RunK P Γ Q k) := vs2_V (RN_K 8) h
/-- One statement alone (where a deferred call is held further on). -/
theorem V_run0 {P Γ Q c k s} (_ : own1 c = true) (h : vs2 P Γ Q (RN P Γ Q 0) c k s) : V P Γ c s (RunK P Γ Q k) := vs2_V (RN_K 0) h
theorem V_mono {P Γ c s} {Q Q' : Exit → St → Prop} (h : V P Γ c s Q) (hq : ∀ e s, Q e s → Q' e s) : V P Γ c s Q' := fun K a w hin hs => by
 refine Code.wp_mono ?_ (h K a w hin hs)
 rintro e a' w' (⟨K', s', h2, h3, h4⟩ | h2)
 ·cases e <;> first | exact .inl ⟨K', s', h2, h3, hq _ _ h4⟩ | exact .inl ⟨K', s', h2, h3, h4⟩
 ·exact .inr h2
section
variable {P : Program} {Γ : Ctx} {Q : Exit → St → Prop} {R : Kt → Exit → St → Prop} {k : Kt} {s s' : St} {n : Nat}
theorem cg_HR {l K z} (_ : (True ∧ True) = z) (h : s = s') : HR P Γ l s K = HR P Γ l s' K := by rw [h]
theorem cg_vs2 {c z} (_ : (True ∧ True) = z) (h : s = s') : vs2 P Γ Q R c k s = vs2 P Γ Q R c k s' := by rw [h]
theorem cg_RN {e z} (_ : (True ∧ True) = z) (h : s = s') : RN P Γ Q n k e s = RN P Γ Q n k e s' := by rw [h]
attribute [congr] cg_Cnd cg_HR cg_vs2 cg_RN
theorem HR_nil {K} : HR P Γ [] s K = K s := rfl
theorem HR_cons {d op r K} : HR P Γ (⟨d, op, none⟩ :: r) s K = hstep P Γ d op s fun s' => HR P Γ r s' K := rfl
theorem HR_grd {d op t want r K} : HR P Γ (⟨d, op, some (t, want)⟩ :: r) s K = match getK s.env t with
   | some (.u (.bool b)) => putOK d s ∧ Cnd (b = want) (b = !want)
     (hstep P Γ d op (s.put (some t) (.u (.bool want))) fun s' => HR P Γ r s' K)
     (HR P Γ r ((s.put (some t) (.u (.bool (!want)))).put d .un) K)
   | some (.u (.oth v)) => v = undef ∧ putOK d s ∧ HR P Γ r (s.put d .un) K
   | _ => False := rfl
theorem v2_seq {a b : Code} : vs2 P Γ Q R (.seq a b) k s = vs2 P Γ Q R a (.seq b k) s := by rw [vs2]
theorem v2_block {i} {a : Code} : vs2 P Γ Q R (.block i a) k s = vs2 P Γ Q R a (.blk i k) s := by rw [vs2]
theorem v2_skip : vs2 P Γ Q R .skip k s = R k .normal s := by rw [vs2]
theorem v2_exit {l} : vs2 P Γ Q R (.exit l) k s = R k (.exit l) s := by rw [vs2]
theorem v2_ret : vs2 P Γ Q R .ret k s = R k .ret s := by rw [vs2]
theorem v2_cond {c x y} : vs2 P Γ Q R (.cond c x y) k s = match opd s c with
  | .u (.bool t) => Cnd (t = true) (t = false) (vs2 P Γ Q R x k s) (vs2 P Γ Q R y k s)
  | _ => False := by rw [vs2]
theorem v2_region {i} {l : List Oper} : vs2 P Γ Q R (.region i l.toArray false) k s = match stripL l.toArray l with | some l' => HR P Γ l' s (R k .normal) | none => False := by rw [vs2]
theorem v2_draw {i l} : vs2 P Γ Q R (.region i l true) k s = V P Γ (.region i l true) s (RunK P Γ Q k) := by rw [vs2] <;> simp
theorem v2_loop {c} : vs2 P Γ Q R (.loop c) k s = V P Γ (.loop c) s (RunK P Γ Q k) := by rw [vs2] <;> simp
theorem RN_0 {e} : RN P Γ Q 0 k e s = RunK P Γ Q k e s := rfl
theorem RN_done {e} : RN P Γ Q (n + 1) .done e s = Q e s := rfl
theorem RN_seq {b} : RN P Γ Q (n + 1) (.seq b k) .normal s = vs2 P Γ Q (RN P Γ Q n) b k s := rfl
theorem RN_seq_ret {b} : RN P Γ Q (n + 1) (.seq b k) .ret s = RN P Γ Q n k .ret s := rfl
theorem RN_seq_exit {b i} : RN P Γ Q (n + 1) (.seq b k) (.exit i) s = RN P Γ Q n k (.exit i) s := rfl
theorem RN_blk {i} : RN P Γ Q (n + 1) (.blk i k) .normal s = RN P Γ Q n k .normal s := rfl
theorem RN_blk_ret {i} : RN P Γ Q (n + 1) (.blk i k) .ret s = RN P Γ Q n k .ret s := rfl
theorem RN_blk_exit {i j} : RN P Γ Q (n + 1) (.blk i k) (.exit j) s = if j = i then RN P Γ Q n k .normal s else RN P Γ Q n k (.exit j) s := rfl
theorem RN_loop {I} : RN P Γ Q (n + 1) (.loop I k) .normal s = I s := rfl
theorem RN_loop_ret {I} : RN P Γ Q (n + 1) (.loop I k) .ret s = RN P Γ Q n k .ret s := rfl
theorem RN_loop_exit {I i} : RN P Γ Q (n + 1) (.loop I k) (.exit i) s = RN P Γ Q n k (.exit i) s := rfl
end
/-- What is asked at a function's end (the walk does not look into it). -/
def Pst (p : Prop) : Prop := p
theorem Pst.of {p : Prop} (h : p) : Pst p := h
theorem cg_Pst {p z : Prop} (_ : (True ∧ True) = z) : Pst p = Pst p := rfl
attribute [congr] cg_Pst
/-- A function's end: its results, by value. -/
def EndV (P : Program) (rs : Array ResultVar) (post : D → Prop) (e : Exit) (s : St) : Prop := (e = .normal ∨ e = .ret) ∧ Pst (resD P s rs.toList fun ds => pureD (oneOrTup ds) = true ∧ post (oneOrTup ds))
theorem Fun.run {P f fn c ds post nt rs} (hf : P.funcs[f]? = some fn) (hnt : fn.ntmps = nt) (hr : fn.results = rs) (hb : fn.body = some c) (hn : ds.length ≤ nt)
  (h : ∀ Γ : Ctx, Γ.n0 = 0 → V P Γ c (entry ds nt [] 0) (RunK P Γ (EndV P rs post) .done)) : Fun P f ds post := by
 subst hnt hr
 exact Fun.of_body hf hb hn fun Γ hn => V_mono (h Γ hn) fun e s h => EndOK.val h.1 h.2
theorem CallP.f2 {P : Program} {Γ : Ctx} {s : St} {k : St → Prop} {dst : Option Tmp} {fop : Operand} {args : List Operand} {f caps} {ds : List D} {L : List Nat} {v : D} (hf : calleeOf (opd s fop) = some (f, caps)) (hret : Fun P f ds (· = v))
  (hds : argsV s (args.map (opd s) ++ caps) = some (ds, L)) (hk : callable P f = true ∧ putOK dst s ∧ k (({ s with obs := if scalarD v then s.obs else delAll s.obs L } : St).put dst v)) : CallP P Γ fop args dst s k :=
 CallP.fun_ hret hf hk.1 hds hk.2.1 fun d h => by subst h; exact hk.2.2
theorem CallV.f2 {P : Program} {s : St} {ret : D → Prop} {fop : Operand} {args : List Operand} {f caps} {ds : List D} {L : List Nat} {v : D} (hf : calleeOf (opd s fop) = some (f, caps)) (hret : Fun P f ds (· = v))
  (hds : argsV s (args.map (opd s) ++ caps) = some (ds, L)) (hk : callable P f = true ∧ (scalarD v = true ∨ L = []) ∧ ret v) : CallV P s fop args ret := CallV.fun_ hret hf hk.1 hds hk.2.1 hk.2.2
theorem wkO_in {s : St} {nx : Nat} : ∀ {l : List (Nat × Ob)} {p : Nat × Ob}, wkO s nx l → p ∈ l → p.1 < nx ∧ getK s.obs p.1 = some p.2 ∧ p.2.under nx = true
 | q :: l, p, h, hp => by
  rcases List.mem_cons.1 hp with rfl | hp
  ·exact h.1
  ·exact wkO_in h.2 hp
theorem resD_mono {P : Program} {s : St} {K K' : List D → Prop} (hk : ∀ ds, K ds → K' ds) {rs : List ResultVar} (h : resD P s rs K) : resD P s rs K' := by
 induction rs generalizing K K' with
 | nil => exact hk _ h
 | cons r rs ih =>
  cases r with
  | tmp t => exact ih (fun ds => hk _) h
  | cell a t => exact Lin.loadD.1 _ _ (fun d hd => ih (fun ds => hk _) hd) h
theorem Wk.cut2 {Γ : Ctx} {s s' : St} (h : s'.n = s.n ∧ Γ.n0 ≤ s'.next ∧ wkO s s'.next s'.obs ∧ wkU s'.next s'.env ∧ wkE s s'.env) : Wk Γ s s' := .cut h.1 h.2.1 h.2.2.1 h.2.2.2.1 h.2.2.2.2
theorem Fun.runW {P f fn c ds post nt} (hf : P.funcs[f]? = some fn) (hnt : fn.ntmps = nt) (hb : fn.body = some c) (hn : ds.length ≤ nt)
  (h : ∀ Γ : Ctx, Γ.n0 = 0 → V P Γ c (entry ds nt [] 0) (RunK P Γ (EndW P Γ fn 0 fun d _ _ => pureD d = true ∧ post d) .done)) : Fun P f ds post := by subst hnt; exact Fun.of_bodyW hf hb hn h
theorem Ret.runW {P f fn c ds obs nx post nt} (hf : P.funcs[f]? = some fn) (hnt : fn.ntmps = nt) (hb : fn.body = some c) (hn : ds.length ≤ nt)
  (h : ∀ Γ : Ctx, Γ.n0 = nx → V P Γ c (entry ds nt obs nx) (RunK P Γ (EndW P Γ fn nx post) .done)) : Ret P f ds obs nx post := by subst hnt; exact Ret.of_bodyW hf hb hn h
end Go.VL
namespace Go.VL
open Go
/-- One operation of a drawn region; a call waits for its contract (G). -/
def h4s (P : Program) (R : St → Fp4 → Prop) (G : Prop) (dst : Option Tmp) (op : Op) (s : St) (fp : Fp4) : Prop :=
 match callOf op with
 | some _ => G
 | none => if isEffOp op = true then effD P s op fun e => putOK dst s ∧ (e.nw = none → dst = none) ∧ R (s.effS e dst) (fp ++ [(rdIds s op, match e.nw with | none => (e.U.map (·.1), 0) | some _ => (s.next :: e.U.map (·.1), 0))])
  else evPure P s op fun d => putOK dst s ∧ R (s.put dst d) (fp ++ [(rdIds s op, [], 0)])
def H4 (P : Program) (Γ : Ctx) (N : Nat) (C : Fp4 → Prop) (k : St → Prop) : List O1 → St → Fp4 → Prop
 | [], s, fp => C fp ∧ k s
 | o :: r, s, fp => match o.guard with
  | none => h4s P (H4 P Γ N C k r) (HD4 P Γ N (⟨o.dst, o.op, none⟩ :: r) s fp C k) o.dst o.op s fp
  | some (t, want) => match getK s.env t with
   | some (.u (.bool b)) => putOK o.dst s ∧ Cnd (b = want) (b = !want)
         (h4s P (H4 P Γ N C k r) (HD4h P Γ N ⟨o.dst, o.op, none⟩ r (s.put (some t) (.u (.bool want))) fp C k) o.dst o.op (s.put (some t) (.u (.bool want))) fp)
         (H4 P Γ N C k r ((s.put (some t) (.u (.bool (!want)))).put o.dst .un) (fp ++ [([], [], 0)]))
   | some (.u (.oth v)) => v = undef ∧ putOK o.dst s ∧ H4 P Γ N C k r (s.put o.dst .un) (fp ++ [([], [], 0)])
   | _ => False
theorem valD_pure {P s op} {ret : D → Prop} (h : callOf op = none) : valD P s op ret = evPure P s op ret := by
 cases op
 case call c =>
  obtain ⟨callee, args, ts⟩ := c
  cases callee <;> first | rfl | (simp [callOf] at h)
 all_goals rfl
theorem h4s_h {P Γ N C k} {R : St → Fp4 → Prop} {dst op s fp} {r : List O1} (hR : ∀ s fp, R s fp → HD4 P Γ N r s fp C k) (h : h4s P R (HD4h P Γ N ⟨dst, op, none⟩ r s fp C k) dst op s fp) : HD4h P Γ N ⟨dst, op, none⟩ r s fp C k := by
 unfold h4s at h
 split at h
 ·exact h
 ·rename_i hc
  split at h
  ·rename_i he
   exact HD4h_chg he (Lin.effD.1 _ _ (fun e h => ⟨h.1, h.2.1, hR _ _ h.2.2⟩) h)
  ·rename_i he
   refine HD4h_val (by simpa using he) ?_
   rw [valD_pure hc]
   exact Lin.evPure.1 _ _ (fun d h => ⟨h.1, hR _ _ h.2⟩) h
/-- What stands first is no call that waits for its contract. -/
def ncall : List O1 → Bool
 | ⟨_, op, none⟩ :: _ => (callOf op).isNone
 | _ => true
theorem H4_D {P Γ N C k} : ∀ {l s fp}, H4 P Γ N C k l s fp → HD4 P Γ N l s fp C k
 | [], s, fp, h => HD4_nil h.1 h.2
 | ⟨dst, op, g⟩ :: r, s, fp, h => by
  unfold H4 at h
  cases g with
  | none =>
   simp only at h
   by_cases hc : (callOf op).isSome = true
   ·unfold h4s at h
    split at h
    ·exact h
    ·simp_all
   ·exact .of_h (h4s_h (fun _ _ => H4_D) (by
     unfold h4s at h ⊢
     split at h
     ·simp_all
     ·exact h))
  | some g =>
   obtain ⟨t, want⟩ := g
   simp only at h
   split at h
   ·rename_i b hb
    obtain ⟨hp, hy, hn⟩ := h
    exact HD4_guard hb hp (fun e => h4s_h (fun _ _ => H4_D) (hy e)) (fun e => H4_D (hn e))
   ·rename_i v hb
    obtain ⟨rfl, hp, hn⟩ := h
    exact HD4_guardU hb hp (H4_D hn)
   ·exact h.elim
theorem H4_HD4 {P Γ N C k l s fp} (_ : ncall l = true) (h : H4 P Γ N C k l s fp) : HD4 P Γ N l s fp C k := H4_D h
theorem V_dx {P Γ s} {Q : Exit → St → Prop} {kt : Kt} {id : Nat} {l : List Oper} (hm : P.follows .mixedOrders = true) (hord : ordOK l = true) (hn0 : Γ.n0 ≤ s.next)
  (h : ∀ (C : Fp4 → Prop) (k : St → Prop), (∀ fp, okP4 l fp = true → C fp) → (∀ s', RunK P Γ Q kt .normal s' → k s') → match stripL l.toArray l with | some l' => H4 P Γ s.next C k l' s [] | none => False) :
  V P Γ (.region id l.toArray true) s (RunK P Γ Q kt) := V_drawX hm hord hn0 fun C k hC hk => by
 have := h C k hC hk
 split at this
 ·rename_i l' hl
  (try rw [hl])
  exact H4_D this
 ·exact this.elim
section
variable {P : Program} {Γ : Ctx} {N : Nat} {C : Fp4 → Prop} {k : St → Prop} {s s' : St} {fp fp' : Fp4}
theorem cg_H4 {l z} (_ : (True ∧ True) = z) (h : s = s') (h' : fp = fp') : H4 P Γ N C k l s fp = H4 P Γ N C k l s' fp' := by rw [h, h']
theorem cg_h4s {R G d op z} (_ : (True ∧ True) = z) (h : s = s') (h' : fp = fp') : h4s P R G d op s fp = h4s P R G d op s' fp' := by rw [h, h']
theorem cg_HD4 {l z} (_ : (True ∧ True) = z) (h : s = s') (h' : fp = fp') : HD4 P Γ N l s fp C k = HD4 P Γ N l s' fp' C k := by rw [h, h']
theorem cg_HD4h {o l z} (_ : (True ∧ True) = z) (h : s = s') (h' : fp = fp') : HD4h P Γ N o l s fp C k = HD4h P Γ N o l s' fp' C k := by rw [h, h']
attribute [congr] cg_H4 cg_h4s cg_HD4 cg_HD4h
theorem H4_nil : H4 P Γ N C k [] s fp = (C fp ∧ k s) := rfl
theorem H4_cons {d op r} : H4 P Γ N C k (⟨d, op, none⟩ :: r) s fp = h4s P (H4 P Γ N C k r) (HD4 P Γ N (⟨d, op, none⟩ :: r) s fp C k) d op s fp := rfl
theorem H4_grd {d op r t want} : H4 P Γ N C k (⟨d, op, some (t, want)⟩ :: r) s fp = match getK s.env t with
   | some (.u (.bool b)) => putOK d s ∧ Cnd (b = want) (b = !want)
     (h4s P (H4 P Γ N C k r) (HD4h P Γ N ⟨d, op, none⟩ r (s.put (some t) (.u (.bool want))) fp C k) d op (s.put (some t) (.u (.bool want))) fp)
     (H4 P Γ N C k r ((s.put (some t) (.u (.bool (!want)))).put d .un) (fp ++ [([], [], 0)]))
   | some (.u (.oth v)) => v = undef ∧ putOK d s ∧ H4 P Γ N C k r (s.put d .un) (fp ++ [([], [], 0)])
   | _ => False := rfl
end
theorem EndW.z {P : Program} {Γ : Ctx} {fn : Func} {n0 N : Nat} {post : D → List (Nat × Ob) → Nat → Prop} {e : Exit} {s : St} {rs : Array ResultVar} (O : List (Nat × Ob)) (hr : fn.results = rs)
  (h : (e = .normal ∨ e = .ret) ∧ n0 ≤ N ∧ wkO s N O) (h3 : resD P s rs.toList fun ds => (oneOrTup ds).under N = true ∧ post (oneOrTup ds) O N) : EndW P Γ fn n0 post e s := by
 subst hr
 refine .here (.fin h.1 ?_)
 obtain ⟨_, h1, h2⟩ := h
 exact resD_mono (fun ds h => FinOK.cut O N (fun p hp => ⟨(wkO_in h2 hp).2.1, (wkO_in h2 hp).1, (wkO_in h2 hp).2.2⟩) h.1 h1 h.2) h3
theorem EndW.h {P : Program} {Γ : Ctx} {fn : Func} {n0 : Nat} {post : D → List (Nat × Ob) → Nat → Prop} {e : Exit} {s : St} {rs : Array ResultVar} (hr : fn.results = rs)
  (h : (e = .normal ∨ e = .ret) ∧ n0 ≤ s.next ∧ resD P s rs.toList fun ds => post (oneOrTup ds) s.obs s.next) : EndW P Γ fn n0 post e s := by
 subst hr
 exact .here (.fin h.1 (resD_mono (fun ds h' => FinOK.here h.2.1 h') h.2.2))
theorem PanG.k {Γ : Ctx} {post : Out → List (Nat × Ob) → Nat → Prop} {ch : List PanicEntry} {s : St} (O : List (Nat × Ob)) (N : Nat) (h : Γ.n0 ≤ N ∧ wkO s N O) (hp : post (.pan ch) O N) : PanG Γ post ch s :=
 ⟨⟨s.n, [], O, N⟩, Wk.cut rfl h.1 h.2 trivial trivial, h.1, hp⟩
theorem RetX.runW {P f fn c ds obs nx post nt} (hf : P.funcs[f]? = some fn) (hnt : fn.ntmps = nt) (hb : fn.body = some c) (hn : ds.length ≤ nt)
  (h : ∀ Γ : Ctx, Γ.n0 = nx → (∀ ch s, PanG Γ post ch s → Γ.pan ch s) → V P Γ c (entry ds nt obs nx) (RunK P Γ (EndW P Γ fn nx fun d o n => post (.val d) o n) .done)) : RetX P f ds obs nx post := by
 subst hnt; exact RetX.of_bodyW hf hb hn h
end Go.VL
namespace Go.Pm
theorem fdiv_of {a b q r : Int} (h : a = b * q + r) (hp : 0 < b → 0 ≤ r ∧ r < b) (hn : b < 0 → b < r ∧ r ≤ 0) (hb : b ≠ 0) : a.fdiv b = q := by
 rcases Int.lt_or_gt_of_ne hb with h0 | h0
 ·obtain ⟨h1, h2⟩ := hn h0
  have e1 : a.fdiv b = (-a).fdiv (-b) := by rw [Int.neg_fdiv_neg]
  rw [e1, Int.fdiv_eq_ediv_of_nonneg _ (by omega)]
  have e2 : -a = -r + (-b) * q := by rw [h, Int.neg_mul]; omega
  rw [e2, Int.add_mul_ediv_left _ _ (by omega), Int.ediv_eq_zero_of_lt (by omega) (by omega)]
  omega
 ·obtain ⟨h1, h2⟩ := hp h0
  rw [Int.fdiv_eq_ediv_of_nonneg _ (by omega), h, Int.add_comm, Int.add_mul_ediv_left _ _ (by omega), Int.ediv_eq_zero_of_lt h1 h2]
  omega
theorem tdiv_parts (a b : Int) (hb : b ≠ 0) : a = b * a.tdiv b + a.tmod b ∧ (0 ≤ a → 0 ≤ a.tmod b) ∧ (a ≤ 0 → a.tmod b ≤ 0) ∧ (0 < b → -b < a.tmod b ∧ a.tmod b < b) ∧ (b < 0 → b < a.tmod b ∧ a.tmod b < -b) := by
 have h1 := Int.mul_tdiv_add_tmod a b
 have h2 : (a.tmod b).natAbs < b.natAbs := by rw [Int.natAbs_tmod]; exact Nat.mod_lt _ (by omega)
 refine ⟨h1.symm, fun h => Int.tmod_nonneg b h, fun h => ?_, fun h => by omega, fun h => by omega⟩
 have := Int.tmod_nonneg (a := -a) b (by omega)
 rw [Int.neg_tmod] at this
 omega
/-- Go's '/' with the correction for unlike signs is the quotient rounded down. -/
theorem floor_eq (a b : Int) (hb : b ≠ 0) : a.fdiv b = if a.tmod b ≠ 0 ∧ ¬ (a < 0 ↔ b < 0) then a.tdiv b - 1 else a.tdiv b := by
 obtain ⟨h1, h2, h3, h4, h5⟩ := tdiv_parts a b hb
 split
 ·rename_i hc
  refine fdiv_of (r := a.tmod b + b) (by rw [Int.mul_sub]; omega) (fun h => ?_) (fun h => ?_) hb
  ·have := h4 h; have := h3 (by omega); omega
  ·have := h5 h; have := h2 (by omega); omega
 ·rename_i hc
  refine fdiv_of (r := a.tmod b) h1 (fun h => ?_) (fun h => ?_) hb
  ·have := h4 h
   by_cases h0 : a < 0
   ·have : a.tmod b = 0 := Classical.byContradiction fun hh => hc ⟨hh, by omega⟩
    omega
   ·have := h2 (by omega); omega
  ·have := h5 h
   by_cases h0 : a < 0
   ·have := h3 (by omega); omega
   ·have : a.tmod b = 0 := by
     by_cases ha : a = 0
     ·subst ha; simp
     ·exact Classical.byContradiction fun hh => hc ⟨hh, by omega⟩
    omega
end Go.Pm
namespace Go.Pm
open Go Go.VL
end Go.Pm
namespace Go.Proofs
open Go.Shelf
def Tryz.lays169_ren : Go.Shelf.Ren := ⟨fun | 169 => 51 | n => n, fun | 70 => 85 | 9 => 9 | 0 => 0 | 72 => 88 | 37 => 86 | 127 => 119 | 3 => 3 | 5 => 5 | n => n, fun | n => n⟩
theorem Tryz.lays169 : Go.Proofs.Lays.n169 Tryz.prog Tryz.lays169_ren := {
 mixed := by kernel_rfl
 f169 := Tryz.func51.trans (congrArg some (by kernel_rfl))
 t0 := Tryz.underlying0
 a0 := Tryz.isAgg0
 z0 := Tryz.sizeOf0
 v0 := Tryz.zeroValue0
 t3 := Tryz.underlying3
 a3 := Tryz.isAgg3
 z3 := Tryz.sizeOf3
 v3 := Tryz.zeroValue3
 t9 := Tryz.underlying9
 a9 := Tryz.isAgg9
 z9 := Tryz.sizeOf9
 v9 := Tryz.zeroValue9
 t37 := Tryz.underlying86
 a37 := Tryz.isAgg86
 z37 := Tryz.sizeOf86
 v37 := Tryz.zeroValue86
 t70 := Tryz.underlying85
 a70 := Tryz.isAgg85
 z70 := Tryz.sizeOf85
 v70 := Tryz.zeroValue85
 t72 := Tryz.underlying88
 a72 := Tryz.isAgg88
 z72 := Tryz.sizeOf88
 v72 := Tryz.zeroValue88
 t127 := Tryz.underlying119
 a127 := Tryz.isAgg119
 z127 := Tryz.sizeOf119
 v127 := Tryz.zeroValue119 }
theorem Tryz.Builder_Extra_169 : Builder.Extra Tryz.prog Tryz.lays169_ren := {
 sizeBuilder := by kernel_rfl
 liesBuilder := by kernel_rfl
 t5 := Tryz.underlying5
 a5 := Tryz.isAgg5
 z5 := Tryz.sizeOf5
 v5 := Tryz.zeroValue5
 infoByte := by kernel_rfl
 cellsByte := by kernel_rfl
 sizeByte := by kernel_rfl
 neB5 := by decide }
def Tryz.laysM171_ren : Go.Shelf.Ren := ⟨fun | 171 => 84 | 243 => 130 | 246 => 158 | 283 => 175 | 284 => 176 | 285 => 177 | 286 => 178 | 129 => 185 | 317 => 184 | 318 => 186 | 319 => 187 | 320 => 188 | 337 => 190 | 338 => 191 | n => n, fun | 3 => 3 | 9 => 9 | 2 => 2 | 4 => 4 | 171 => 221 | 0 => 0 | 53 => 191 | 37 => 86 | 5 => 5 | 173 => 224 | 212 => 227 | 51 => 214 | 20 => 20 | 213 => 228 | 46 => 190 | 232 => 231 | 233 => 232 | n => n, fun | 17 => 9 | 18 => 10 | 19 => 11 | n => n⟩
theorem Tryz.laysM171 : Go.Proofs.LaysM.n171 Tryz.prog Tryz.laysM171_ren := {
 mixed := by kernel_rfl
 f129 := Tryz.func185.trans (congrArg some (by kernel_rfl))
 f171 := Tryz.func84.trans (congrArg some (by kernel_rfl))
 f243 := Tryz.func130.trans (congrArg some (by kernel_rfl))
 f246 := Tryz.func158.trans (congrArg some (by kernel_rfl))
 f283 := Tryz.func175.trans (congrArg some (by kernel_rfl))
 f284 := Tryz.func176.trans (congrArg some (by kernel_rfl))
 f285 := Tryz.func177.trans (congrArg some (by kernel_rfl))
 f286 := Tryz.func178.trans (congrArg some (by kernel_rfl))
 f317 := Tryz.func184.trans (congrArg some (by kernel_rfl))
 f318 := Tryz.func186.trans (congrArg some (by kernel_rfl))
 f319 := Tryz.func187.trans (congrArg some (by kernel_rfl))
 f320 := Tryz.func188.trans (congrArg some (by kernel_rfl))
 f337 := Tryz.func190.trans (congrArg some (by kernel_rfl))
 f338 := Tryz.func191.trans (congrArg some (by kernel_rfl))
 t0 := Tryz.underlying0
 a0 := Tryz.isAgg0
 z0 := Tryz.sizeOf0
 v0 := Tryz.zeroValue0
 t2 := Tryz.underlying2
 a2 := Tryz.isAgg2
 z2 := Tryz.sizeOf2
 v2 := Tryz.zeroValue2
 t3 := Tryz.underlying3
 a3 := Tryz.isAgg3
 z3 := Tryz.sizeOf3
 v3 := Tryz.zeroValue3
 t4 := Tryz.underlying4
 a4 := Tryz.isAgg4
 z4 := Tryz.sizeOf4
 v4 := Tryz.zeroValue4
 t5 := Tryz.underlying5
 a5 := Tryz.isAgg5
 z5 := Tryz.sizeOf5
 v5 := Tryz.zeroValue5
 t9 := Tryz.underlying9
 a9 := Tryz.isAgg9
 z9 := Tryz.sizeOf9
 v9 := Tryz.zeroValue9
 t20 := Tryz.underlying20
 a20 := Tryz.isAgg20
 z20 := Tryz.sizeOf20
 v20 := Tryz.zeroValue20
 t37 := Tryz.underlying86
 a37 := Tryz.isAgg86
 z37 := Tryz.sizeOf86
 v37 := Tryz.zeroValue86
 t46 := Tryz.underlying190
 a46 := Tryz.isAgg190
 z46 := Tryz.sizeOf190
 v46 := Tryz.zeroValue190
 t51 := Tryz.underlying214
 a51 := Tryz.isAgg214
 z51 := Tryz.sizeOf214
 v51 := Tryz.zeroValue214
 t53 := Tryz.underlying191
 a53 := Tryz.isAgg191
 z53 := Tryz.sizeOf191
 v53 := Tryz.zeroValue191
 t171 := Tryz.underlying221
 a171 := Tryz.isAgg221
 z171 := Tryz.sizeOf221
 v171 := Tryz.zeroValue221
 t173 := Tryz.underlying224
 a173 := Tryz.isAgg224
 z173 := Tryz.sizeOf224
 v173 := Tryz.zeroValue224
 t212 := Tryz.underlying227
 a212 := Tryz.isAgg227
 z212 := Tryz.sizeOf227
 v212 := Tryz.zeroValue227
 t213 := Tryz.underlying228
 a213 := Tryz.isAgg228
 z213 := Tryz.sizeOf228
 t232 := Tryz.underlying231
 a232 := Tryz.isAgg231
 z232 := Tryz.sizeOf231
 v232 := Tryz.zeroValue231
 t233 := Tryz.underlying232
 a233 := Tryz.isAgg232
 z233 := Tryz.sizeOf232
 v233 := Tryz.zeroValue232
 g17 := by kernel_rfl
 g18 := by kernel_rfl
 g19 := by kernel_rfl
 i0 := by kernel_rfl
 i2 := by kernel_rfl
 i3 := by kernel_rfl
 i4 := by kernel_rfl
 i5 := by kernel_rfl
 i9 := by kernel_rfl
 i20 := by kernel_rfl
 i37 := by kernel_rfl
 i46 := by kernel_rfl
 i51 := by kernel_rfl
 i53 := by kernel_rfl
 i171 := by kernel_rfl
 i173 := by kernel_rfl
 i212 := by kernel_rfl
 i232 := by kernel_rfl
 i233 := by kernel_rfl
 m17 := by kernel_rfl
 m18 := by kernel_rfl
 m19 := by kernel_rfl }
open Go.RowKit Go.Sort Go.Lib in
theorem Tryz.strconv_Itoa (n : Int) (h0 : -9223372036854775808 ≤ n) (h1 : n ≤ 9223372036854775807) (w : World) (htab : Lib.TabIs Tryz.prog w "internal/strconv.uint64pow10" .u64 Lib.pow10Tab) :
  Calls Tryz.prog 84 #[.int .i64 n] w fun e w' => e = .returned (.string ⟨(Lib.itoa n).toArray⟩) ∧ ∃ k os, w' = grow (w.drewN k) os := Any.strconv_Itoa Tryz.laysM171 n h0 h1 w htab
def Tryz.laysC172_ren : Go.Shelf.Ren := ⟨fun | 172 => 45 | 244 => 78 | 245 => 79 | 247 => 120 | 279 => 121 | 280 => 122 | 281 => 123 | 282 => 124 | 287 => 149 | 316 => 150 | 171 => 84 | 205 => 151 | 321 => 173 | 322 => 174 | 243 => 130 | 246 => 158 | 283 => 175 | 284 => 176 | 285 => 177 | 286 => 178 | 129 => 185 | 317 => 184 | 318 => 186 | 319 => 187 | 320 => 188 | 337 => 190 | 338 => 191 | n => n, fun | 9 => 9 | 3 => 3 | 75 => 78 | 76 => 79 | 4 => 4 | 5 => 5 | 167 => 156 | 37 => 86 | 0 => 0 | 85 => 157 | 2 => 2 | 168 => 159 | 53 => 191 | 175 => 192 | 46 => 190 | 210 => 196 | 127 => 119 | 145 => 220 | 143 => 218 | 21 => 21 | 171 => 221 | 173 => 224 | 212 => 227 | 51 => 214 | 20 => 20 | 213 => 228 | 232 => 231 | 233 => 232 | 80 => 90 | n => n, fun | 15 => 2 | 16 => 3 | 17 => 9 | 18 => 10 | 19 => 11 | n => n⟩
theorem Tryz.laysC172 : Go.Proofs.LaysC.n172 Tryz.prog Tryz.laysC172_ren := {
 mixed := by kernel_rfl
 f129 := Tryz.func185.trans (congrArg some (by kernel_rfl))
 f171 := Tryz.func84.trans (congrArg some (by kernel_rfl))
 f172 := Tryz.func45.trans (congrArg some (by kernel_rfl))
 f205 := Tryz.func151.trans (congrArg some (by kernel_rfl))
 f243 := Tryz.func130.trans (congrArg some (by kernel_rfl))
 f244 := Tryz.func78.trans (congrArg some (by kernel_rfl))
 f245 := Tryz.func79.trans (congrArg some (by kernel_rfl))
 f246 := Tryz.func158.trans (congrArg some (by kernel_rfl))
 f247 := Tryz.func120.trans (congrArg some (by kernel_rfl))
 f279 := Tryz.func121.trans (congrArg some (by kernel_rfl))
 f280 := Tryz.func122.trans (congrArg some (by kernel_rfl))
 f281 := Tryz.func123.trans (congrArg some (by kernel_rfl))
 f282 := Tryz.func124.trans (congrArg some (by kernel_rfl))
 f283 := Tryz.func175.trans (congrArg some (by kernel_rfl))
 f284 := Tryz.func176.trans (congrArg some (by kernel_rfl))
 f285 := Tryz.func177.trans (congrArg some (by kernel_rfl))
 f286 := Tryz.func178.trans (congrArg some (by kernel_rfl))
 f287 := Tryz.func149.trans (congrArg some (by kernel_rfl))
 f316 := Tryz.func150.trans (congrArg some (by kernel_rfl))
 f317 := Tryz.func184.trans (congrArg some (by kernel_rfl))
 f318 := Tryz.func186.trans (congrArg some (by kernel_rfl))
 f319 := Tryz.func187.trans (congrArg some (by kernel_rfl))
 f320 := Tryz.func188.trans (congrArg some (by kernel_rfl))
 f321 := Tryz.func173.trans (congrArg some (by kernel_rfl))
 f322 := Tryz.func174.trans (congrArg some (by kernel_rfl))
 f337 := Tryz.func190.trans (congrArg some (by kernel_rfl))
 f338 := Tryz.func191.trans (congrArg some (by kernel_rfl))
 t0 := Tryz.underlying0
 a0 := Tryz.isAgg0
 z0 := Tryz.sizeOf0
 v0 := Tryz.zeroValue0
 t2 := Tryz.underlying2
 a2 := Tryz.isAgg2
 z2 := Tryz.sizeOf2
 v2 := Tryz.zeroValue2
 t3 := Tryz.underlying3
 a3 := Tryz.isAgg3
 z3 := Tryz.sizeOf3
 v3 := Tryz.zeroValue3
 t4 := Tryz.underlying4
 a4 := Tryz.isAgg4
 z4 := Tryz.sizeOf4
 v4 := Tryz.zeroValue4
 t5 := Tryz.underlying5
 a5 := Tryz.isAgg5
 z5 := Tryz.sizeOf5
 v5 := Tryz.zeroValue5
 t9 := Tryz.underlying9
 a9 := Tryz.isAgg9
 z9 := Tryz.sizeOf9
 v9 := Tryz.zeroValue9
 t20 := Tryz.underlying20
 a20 := Tryz.isAgg20
 z20 := Tryz.sizeOf20
 v20 := Tryz.zeroValue20
 t21 := Tryz.underlying21
 a21 := Tryz.isAgg21
 z21 := Tryz.sizeOf21
 v21 := Tryz.zeroValue21
 t37 := Tryz.underlying86
 a37 := Tryz.isAgg86
 z37 := Tryz.sizeOf86
 v37 := Tryz.zeroValue86
 t46 := Tryz.underlying190
 a46 := Tryz.isAgg190
 z46 := Tryz.sizeOf190
 v46 := Tryz.zeroValue190
 t51 := Tryz.underlying214
 a51 := Tryz.isAgg214
 z51 := Tryz.sizeOf214
 v51 := Tryz.zeroValue214
 t53 := Tryz.underlying191
 a53 := Tryz.isAgg191
 z53 := Tryz.sizeOf191
 v53 := Tryz.zeroValue191
 t75 := Tryz.underlying78
 a75 := Tryz.isAgg78
 z75 := Tryz.sizeOf78
 v75 := Tryz.zeroValue78
 t76 := Tryz.underlying79
 a76 := Tryz.isAgg79
 z76 := Tryz.sizeOf79
 v76 := Tryz.zeroValue79
 t85 := Tryz.underlying157
 a85 := Tryz.isAgg157
 z85 := Tryz.sizeOf157
 v85 := Tryz.zeroValue157
 t127 := Tryz.underlying119
 a127 := Tryz.isAgg119
 z127 := Tryz.sizeOf119
 v127 := Tryz.zeroValue119
 t143 := Tryz.underlying218
 a143 := Tryz.isAgg218
 z143 := Tryz.sizeOf218
 v143 := Tryz.zeroValue218
 t145 := Tryz.underlying220
 a145 := Tryz.isAgg220
 z145 := Tryz.sizeOf220
 v145 := Tryz.zeroValue220
 t167 := Tryz.underlying156
 a167 := Tryz.isAgg156
 z167 := Tryz.sizeOf156
 v167 := Tryz.zeroValue156
 t168 := Tryz.underlying159
 a168 := Tryz.isAgg159
 z168 := Tryz.sizeOf159
 v168 := Tryz.zeroValue159
 t171 := Tryz.underlying221
 a171 := Tryz.isAgg221
 z171 := Tryz.sizeOf221
 v171 := Tryz.zeroValue221
 t173 := Tryz.underlying224
 a173 := Tryz.isAgg224
 z173 := Tryz.sizeOf224
 v173 := Tryz.zeroValue224
 t175 := Tryz.underlying192
 a175 := Tryz.isAgg192
 z175 := Tryz.sizeOf192
 v175 := Tryz.zeroValue192
 t210 := Tryz.underlying196
 a210 := Tryz.isAgg196
 z210 := Tryz.sizeOf196
 v210 := Tryz.zeroValue196
 t212 := Tryz.underlying227
 a212 := Tryz.isAgg227
 z212 := Tryz.sizeOf227
 v212 := Tryz.zeroValue227
 t213 := Tryz.underlying228
 a213 := Tryz.isAgg228
 z213 := Tryz.sizeOf228
 t232 := Tryz.underlying231
 a232 := Tryz.isAgg231
 z232 := Tryz.sizeOf231
 v232 := Tryz.zeroValue231
 t233 := Tryz.underlying232
 a233 := Tryz.isAgg232
 z233 := Tryz.sizeOf232
 v233 := Tryz.zeroValue232
 g15 := by kernel_rfl
 g16 := by kernel_rfl
 g17 := by kernel_rfl
 g18 := by kernel_rfl
 g19 := by kernel_rfl
 t80 := Tryz.underlying90
 a80 := Tryz.isAgg90
 z80 := Tryz.sizeOf90
 v80 := Tryz.zeroValue90
 i0 := by kernel_rfl
 i2 := by kernel_rfl
 i3 := by kernel_rfl
 i4 := by kernel_rfl
 i5 := by kernel_rfl
 i9 := by kernel_rfl
 i20 := by kernel_rfl
 i21 := by kernel_rfl
 i37 := by kernel_rfl
 i46 := by kernel_rfl
 i51 := by kernel_rfl
 i53 := by kernel_rfl
 i75 := by kernel_rfl
 i76 := by kernel_rfl
 i80 := by kernel_rfl
 i85 := by kernel_rfl
 i127 := by kernel_rfl
 i143 := by kernel_rfl
 i145 := by kernel_rfl
 i167 := by kernel_rfl
 i168 := by kernel_rfl
 i171 := by kernel_rfl
 i173 := by kernel_rfl
 i175 := by kernel_rfl
 i210 := by kernel_rfl
 i212 := by kernel_rfl
 i232 := by kernel_rfl
 i233 := by kernel_rfl
 m15 := by kernel_rfl
 m16 := by kernel_rfl
 m17 := by kernel_rfl
 m18 := by kernel_rfl
 m19 := by kernel_rfl
 c0 := by kernel_rfl
 c2 := by kernel_rfl
 c3 := by kernel_rfl
 c4 := by kernel_rfl
 c5 := by kernel_rfl
 c9 := by kernel_rfl
 c20 := by kernel_rfl
 c21 := by kernel_rfl
 c37 := by kernel_rfl
 c46 := by kernel_rfl
 c51 := by kernel_rfl
 c53 := by kernel_rfl
 c75 := by kernel_rfl
 c76 := by kernel_rfl
 c80 := by kernel_rfl
 c85 := by kernel_rfl
 c127 := by kernel_rfl
 c143 := by kernel_rfl
 c145 := by kernel_rfl
 c167 := by kernel_rfl
 c168 := by kernel_rfl
 c171 := by kernel_rfl
 c173 := by kernel_rfl
 c175 := by kernel_rfl
 c210 := by kernel_rfl
 c212 := by kernel_rfl
 c213 := by kernel_rfl
 c232 := by kernel_rfl
 c233 := by kernel_rfl }
open Go.RowKit in
theorem Tryz.strconv_Atoi_ok (s : ByteArray) (hmax : s.size ≤ 9223372036854775806) (v : Int) (h : Lib.atoiAll s.data.toList = .ok v) (w : World) :
  Calls Tryz.prog 45 #[.string s] w fun e w' => e = .returned (.tuple #[.int .i64 v, .nilIface]) ∧ (w' = w ∨ ∃ t, w' = Lib.bytesWorld w 5 t) := Any.strconv_Atoi_ok Tryz.laysC172 s hmax v h w
open Go.RowKit in
theorem Tryz.strconv_Atoi_syntax (s : ByteArray) (hlim : s.size ≤ 281474976710656) (h0 : match Lib.atoiAll s.data.toList with | .ok _ => False | .range => False | _ => True) (ev : Value) (w : World) (hv : w.cell? ⟨2, 0, none⟩ = some ev) (hev : ev = .nilIface ∨ ∃ te pe, ev = .iface te pe) :
  Calls Tryz.prog 45 #[.string s] w fun e w' => ∃ N, e = .returned (.tuple #[.int .i64 (0), .iface 159 (.pointer (some ⟨N, 0, none⟩))]) ∧ w.heap.size ≤ N ∧ w'.heap[N]? = some (.cells #[.string ⟨#[65, 116, 111, 105]⟩, .string s, ev] 196 (0, 0)) ∧ Below w.heap.size w w' := Any.strconv_Atoi_syntax Tryz.laysC172 s hlim (by revert h0; cases Lib.atoiAll s.data.toList <;> simp) ev w hv hev
open Go.RowKit in
theorem Tryz.strconv_Atoi_range (s : ByteArray) (hlim : s.size ≤ 281474976710656) (h : Lib.atoiAll s.data.toList = .range) (ev : Value) (w : World) (hv : w.cell? ⟨3, 0, none⟩ = some ev) (hev : ev = .nilIface ∨ ∃ te pe, ev = .iface te pe) :
  Calls Tryz.prog 45 #[.string s] w fun e w' => ∃ N, e = .returned (.tuple #[.int .i64 (Lib.atoiSat s.data.toList), .iface 159 (.pointer (some ⟨N, 0, none⟩))]) ∧ w.heap.size ≤ N ∧ w'.heap[N]? = some (.cells #[.string ⟨#[65, 116, 111, 105]⟩, .string s, ev] 196 (0, 0)) ∧ Below w.heap.size w w' := Any.strconv_Atoi_range Tryz.laysC172 s hlim h ev w hv hev
def Tryz.lays217_ren : Go.Shelf.Ren := ⟨fun | 217 => 145 | 266 => 171 | n => n, fun | 9 => 9 | 5 => 5 | 3 => 3 | n => n, fun | n => n⟩
theorem Tryz.lays217 : Go.Proofs.Lays.n217 Tryz.prog Tryz.lays217_ren := {
 mixed := by kernel_rfl
 f217 := Tryz.func145.trans (congrArg some (by kernel_rfl))
 f266 := Tryz.func171.trans (congrArg some (by kernel_rfl))
 t3 := Tryz.underlying3
 a3 := Tryz.isAgg3
 z3 := Tryz.sizeOf3
 v3 := Tryz.zeroValue3
 t5 := Tryz.underlying5
 a5 := Tryz.isAgg5
 z5 := Tryz.sizeOf5
 v5 := Tryz.zeroValue5
 t9 := Tryz.underlying9
 a9 := Tryz.isAgg9
 z9 := Tryz.sizeOf9
 v9 := Tryz.zeroValue9 }
open Go.RowKit Go.Lib in
theorem Tryz.stringslite_IndexByte (s : ByteArray) (c : Int) (w : World) :
  Calls Tryz.prog 145 #[.string s, .int .u8 c] w fun e w' => e = .returned (.int .i64 (Lib.indexByte s.data.toList c.toNat.toUInt8)) ∧ w' = w := Any.stringslite_IndexByte Tryz.lays217 s c w
end Go.Proofs
namespace Go.VL
open Go
end Go.VL
namespace Go.VL
open Go
section
variable {P : Program} {l : List Oper} {o : Oper} {Q Q1 : Exit → Act → World → Prop}
end
end Go.VL
namespace Go.VL
open Go Go.Lib
def bytesU (l : List UInt8) : List (List U) := l.map fun c => [.int .u8 c.toNat]
abbrev bytesR (l : List UInt8) : List (List D) := rowsD (bytesU l)
theorem bytesU_len (l : List UInt8) : (bytesU l).length = l.length := by simp [bytesU]
theorem bytesU_app (a b : List UInt8) : bytesU (a ++ b) = bytesU a ++ bytesU b := by simp [bytesU]
theorem bytesR_len (l : List UInt8) : (bytesR l).length = l.length := by simp [bytesU]
theorem bytesR_map (l : List UInt8) : bytesR l = l.map fun c => [.u (.int .u8 c.toNat)] := by simp [bytesR, bytesU, rowsD, Function.comp_def]
theorem append_str {P : Program} (w : World) {t u ty e : TypeId} {i : TypeInfo} (ht : P.underlying t = some (.slice e)) (hu : P.underlying u = some .string) (hi : P.info? e = some i) (hz : i.zero = some (.int .u8 0)) (hsize : i.size = 1) (hby : i.bytes = 1)
  {v : Value} {n : Nat} {xs : List Value} (hown : w.ownsRow 0 e 1 v n xs) (s : ByteArray) (hb : n + s.size ≤ 140737488355328) :
  ∃ v' w', (Builtin.append_ #[t, u] ty #[v, .string s]).run P w = .ok v' w' ∧ w'.ownsRow 0 e 1 v' (n + s.size) (xs ++ strCells s) ∧ w.grownBy w' v.ownBlock ∧
   (v'.ownBlock = v.ownBlock ∨ ∃ b, w.heap.size ≤ b ∧ v'.ownBlock = some b) := by
 have h63 : n + s.size ≤ maxLen := by unfold maxLen; omega
 obtain ⟨v', w', hr, h2, h3, _⟩ := run_append_own_string w 0 t u ty e i ht hu hi hz hsize hby v n xs hown s h63 hb (Nat.zero_le _)
 refine ⟨v', w', hr, h2, h3, ?_⟩
 rcases hown.2 with ⟨rfl, rfl⟩ | ⟨g, cap, cur, rfl, hbg, hg, hnc, hcm, hcs, htake⟩
 ·have hx : xs = [] := List.eq_nil_of_length_eq_zero (by simpa using hown.1)
  subst hx
  obtain ⟨v2, w2, hr2, h4, _⟩ := run_append_own_string w w.heap.size t u ty e i ht hu hi hz hsize hby (.slice none 0 0) 0 [] (World.ownsRow_nil w w.heap.size e 1) s h63 hb (Nat.le_refl _)
  rw [hr] at hr2
  cases hr2
  rcases h4.2 with ⟨rfl, _⟩ | ⟨g, cap, cur, rfl, hbg, _⟩
  ·exact .inl rfl
  ·exact .inr ⟨g, hbg, rfl⟩
 ·by_cases hroom : n + s.size ≤ cap
  ·have hcs' : cur.size = cap := by simpa using hcs
   have hr2 := run_append_room_string (P := P) w t u ty e i ht hu hi hsize g n cap cur hg s hroom (by omega)
   rw [hr] at hr2
   cases hr2
   exact .inl rfl
  ·have holds : ∀ j u, xs[j]? = some u → w.cell? ((⟨g, 0, none⟩ : Addr).add j) = some u := hown.cells (g := g) rfl
   have hxl : xs.length = n := by simpa using hown.1
   have hr2 := run_append_grow_string (P := P) w t u ty e i (.int .u8 0) ht hu hi hz ⟨g, 0, none⟩ n cap xs (by rw [hsize]; simpa using hxl) holds s (by omega) (by omega) (by rw [hby]; exact growslice_fits (by omega) (by omega))
   rw [hr] at hr2
   cases hr2
   exact .inr ⟨_, Nat.le_refl _, rfl⟩
def byteInf (P : Program) (t u : TypeId) : Option TypeId := match P.underlying t, P.underlying u with
 | some (.slice e), some .string => match P.info? e with
  | some i => match i.zero with
   | some (.int .u8 z) => if z = 0 ∧ i.size = 1 ∧ i.bytes = 1 then some e else none
   | _ => none
  | none => none
 | _, _ => none
def appendSD (P : Program) (t u : TypeId) (x y : D) (s : St) (dst : Option Tmp) (k : St → Prop) : Prop := match x, y with
 | .vec i len, .u (.str l) => match getK s.obs i with
  | some (.vec e sz rows) => byteInf P t u = some e ∧ sz = 1 ∧ len = rows.length ∧ putOK dst s ∧ len + l.length ≤ 140737488355328 ∧
    k ((({ s with obs := del s.obs i } : St).add (.vec e 1 (rows ++ bytesR l))).put dst (.vec s.next (len + l.length)))
  | _ => False
 | _, _ => False
theorem Eff.appendS {P Γ o s k x y t u} (ho : o.op = .call { callee := .builtin .append, args := #[x, y], argTypes := #[t, u] }) (h : appendSD P t u (opd s x) (opd s y) s o.dst k) : Eff P Γ o s k := by
 intro K a w hin hs Kont Q hK
 obtain ⟨dst, op, type, pos, after, guard⟩ := o
 simp only at ho h
 subst ho
 unfold appendSD at h
 split at h
 case h_2 => exact h.elim
 rename_i i len l hx hy
 split at h
 case h_2 => exact h.elim
 rename_i e sz rows hg
 obtain ⟨he, rfl, rfl, hp, hlen0, hk⟩ := h
 unfold byteInf at he
 split at he
 case h_2 => cases he
 rename_i e0 ht hu
 split at he
 case h_2 => cases he
 rename_i inf hi
 split at he
 case h_2 => cases he
 rename_i z hz
 split at he
 case isFalse => cases he
 rename_i hinf
 cases he
 obtain ⟨rfl, hsize, hby⟩ := hinf
 have hnext := hs.hdr s.next (Nat.le_refl _)
 have hxr := opd_rep hs x
 rw [hx] at hxr
 obtain ⟨gi, hgi, hxv⟩ := rep_vec hxr
 have hyr := opd_rep hs y
 rw [hy] at hyr
 have hyv := rep_str hyr
 obtain ⟨g2, xs, hg2, hrow, hpos, hlen, hcs, hno⟩ := (hs.sat.ob _ _ hg).vec
 rw [hgi] at hg2
 simp only [Option.some.injEq] at hg2
 subst hg2
 have hls : (ByteArray.mk l.toArray).size = l.length := by simp [ByteArray.size]
 obtain ⟨v', w', hrun, hown, hgrow, hob⟩ := append_str w (ty := type) ht hu hi hz hsize hby hrow ⟨l.toArray⟩ (by rw [hls]; exact hlen0)
 rw [hls] at hown
 obtain ⟨g, hv', hgv⟩ := own_head hown
 subst hv'
 have hrun' : (execOp a.eval { dst, op := .call { callee := .builtin .append, args := #[x, y], argTypes := #[t, u] }, type, pos, after, guard }).run P w = .ok (.value (headVal g (rows.length + l.length))) w' := by
  simp only [execOp]
  simp [resolve, invoke, builtin, hxv, hyv, hrun]
 unfold Oper.wp
 rw [hrun']
 have hle := Kr.le_add (k := K) (h := g) hnext
 have hvb : (headVal gi rows.length).ownBlock = gi.1 := by
  obtain ⟨gb, gc⟩ := gi
  cases gb <;> rfl
 rw [hvb] at hgrow hob
 have hin' : In Γ (K.add s.next g) w' := (hin.grown hgrow (fun b e => (hno b e).1)).step hle (fun _ _ _ e => .inl e) rfl rfl rfl (Nat.le_refl _) fun _ _ => rfl
 have hd := hs.sat.del i
 have hnb : ∀ b, gi.1 = some b → ¬ Blk K (del s.obs i) b := fun b e ⟨j, oj, gj, h1, h2, h3⟩ => by
  rw [getK_del] at h1
  split at h1
  ·cases h1
  ·rename_i hji
   exact hs.sat.apart i j _ oj gi gj b hg h1 (Ne.symm hji) hgi h2 e h3
 have hold : ∀ b, b < w.heap.size → gi.1 ≠ some b → w'.heap[b]? = w.heap[b]? := fun b hb hne => hgrow.block b hb (fun e => hne e.symm)
 have hcell : ∀ j : Nat, (strCells ⟨l.toArray⟩)[j]? = (l[j]?).map fun c : UInt8 => Value.int .u8 c.toNat := fun j => by simp [strCells]
 suffices hsim : Sim (K.add s.next g) Γ.own (({ s with obs := del s.obs i } : St).add (.vec e 1 (rows ++ bytesR l))) a w' from
  hK _ _ _ _ hin' (hsim.put (St.add_putOK (s := { s with obs := del s.obs i }) (by cases dst <;> simp_all [putOK])) (.vec _ _ _ (by simp [Kr.add]))) hk
 refine ⟨?_, hs.defers, hs.size, fun x d hx => ⟨(hs.env x d hx).1, (hs.env x d hx).2.mono hle⟩, fun i hi => ?_⟩
 ·refine hd.add hnext (fun b e => ?_) (fun b hb => ?_) ⟨xs ++ strCells ⟨l.toArray⟩, ?_, Nat.one_pos, ?_, ?_⟩
  ·rw [hgv] at e
   rcases hob with ho | ⟨b', hb', ho⟩
   ·rw [ho] at e
    exact ⟨(hno b e).1, (hno b e).2, hnb b e⟩
   ·rw [ho] at e
    simp only [Option.some.injEq] at e
    subst e
    refine ⟨hin.own_of_ge hb', fun o => ?_, fun hb => absurd (hd.lt hb) (by omega)⟩
    cases hm : K.mem b' o with
    | none => rfl
    | some v => exact absurd (hs.sat.memLt hm) (by omega)
  ·refine hold b (hb.elim hd.lt fun ⟨_, _, e⟩ => hs.sat.memLt e) fun e => ?_
   rcases hb with hb | ⟨o, v, hm⟩
   ·exact hnb b e hb
   ·have := (hno b e).2 o
    rw [hm] at this
    cases this
  ·have e1 : (rows ++ bytesR l).length = rows.length + l.length := by rw [List.length_append, bytesR_len]
   rw [e1]
   exact hown
  ·intro r hr
   rcases List.mem_append.1 hr with hr | hr
   ·exact hlen r hr
   ·rw [bytesR_map] at hr
    obtain ⟨c, _, rfl⟩ := List.mem_map.1 hr
    try rfl
  ·have hnews : ∀ i r, (bytesR l)[i]? = some r → ∀ j d, r[j]? = some d → OneRep (K.add s.next g) d ((strCells ⟨l.toArray⟩).getD (i * 1 + j) undef) := fun i r hi j d hj => by
    rw [bytesR_map, List.getElem?_map] at hi
    cases hc : l[i]? with
    | none => rw [hc] at hi; cases hi
    | some c =>
     rw [hc] at hi
     cases hi
     match j, hj with
     | 0, hj =>
      cases hj
      have : (strCells ⟨l.toArray⟩).getD (i * 1 + 0) undef = .int .u8 c.toNat := by
       rw [List.getD_eq_getElem?_getD, Nat.mul_one, Nat.add_zero, hcell, hc]; rfl
      rw [this]
      exact ⟨rfl, .u _ _ (.int _ _)⟩
   exact rows_append (by simpa using hrow.1) hlen (fun i r hi j d hj => ⟨(hcs i r hi j d hj).1, (hcs i r hi j d hj).2.mono hle⟩) hnews
 ·have hi' : s.next + 1 ≤ i := hi
  simp only [Kr.add]
  rw [if_neg (by omega)]
  exact hs.hdr i (by omega)
theorem H_appendS {P : Program} {Γ : Ctx} {s : St} {k : St → Prop} {dst : Option Tmp} {x y : Operand} {t u : TypeId} {rest : List O1}
  (h : appendSD P t u (opd s x) (opd s y) s dst fun s' => H P Γ rest s' k) : H P Γ (⟨dst, .call { callee := .builtin .append, args := #[x, y], argTypes := #[t, u] }, none⟩ :: rest) s k := by
 intro all ops e
 obtain ⟨o, ops', rfl, hx, hr⟩ := stripL_cons e
 obtain ⟨dst', op, type, pos, after, guard⟩ := o
 unfold strip at hx
 simp only at hx
 cases guard with
 | none =>
  simp at hx
  obtain ⟨rfl, rfl⟩ := hx
  exact G_eff ((Eff.appendS (o := { dst := dst', op := _, type, pos, after, guard := none }) rfl h).mono fun s' h => h all ops' hr)
 | some g =>
  obtain ⟨j, b⟩ := g
  simp only at hx
  split at hx <;> simp at hx
theorem Eff.allocN {P Γ o s k t} (ho : o.op = .alloc t) (hz : zeroC P t = some [.pointer none, .slice none 0 0]) (hp : putOK o.dst s) (hk : k ((s.add (.nw t)).put o.dst (.ptr s.next 0))) : Eff P Γ o s k := by
 intro K a w hin hs Kont Q hK
 obtain ⟨v, hv, hc, hone⟩ := zeroC_some hz
 obtain ⟨h1, h2⟩ := Sim.alloc hin hs (.cells v.cells t) 0 (.nw t) ⟨w.heap.size, rfl, by rw [heap_alloc_new, hc]⟩
 have hrun : (execOp a.eval o).run P w = .ok (.value (.pointer (some ⟨w.heap.size, 0, none⟩))) (w.alloc (.cells v.cells t)) := by
  obtain ⟨dst, op, type, pos, after, guard⟩ := o
  simp only at ho
  subst ho
  simp [execOp, Instr.alloc, hv, newVar, newRow]
 unfold Oper.wp
 rw [hrun]
 refine hK _ _ _ _ h1 (h2.put (by cases hd : o.dst <;> simp_all [putOK, St.add]) (.ptr _ _ w.heap.size 0 (by simp [Kr.add]))) hk
/-- A variable of two nil cells is made, and not yet written. -/
theorem H_allocN {P : Program} {Γ : Ctx} {s : St} {k : St → Prop} {dst : Option Tmp} {t : TypeId} {rest : List O1}
  (hz : zeroC P t = some [.pointer none, .slice none 0 0]) (hp : putOK dst s) (h : H P Γ rest ((s.add (.nw t)).put dst (.ptr s.next 0)) k) : H P Γ (⟨dst, .alloc t, none⟩ :: rest) s k := by
 intro all ops e
 obtain ⟨o, ops', rfl, hx, hr⟩ := stripL_cons e
 obtain ⟨dst', op, type, pos, after, guard⟩ := o
 unfold strip at hx
 simp only at hx
 cases guard with
 | none =>
  simp at hx
  obtain ⟨rfl, rfl⟩ := hx
  exact G_eff ((Eff.allocN (k := fun s' => H P Γ rest s' k) (o := { dst := dst', op := _, type, pos, after, guard := none }) rfl hz hp h).mono fun s' h => h all ops' hr)
 | some g =>
  obtain ⟨j, b⟩ := g
  simp only at hx
  split at hx <;> simp at hx
end Go.VL
