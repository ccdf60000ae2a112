/- Texts joined by a program of mine: VLW VLX VLY VLQ VLZ VLA Ty Sh VLF Mn Ua Ub UD UI Ma#p Mb#p Mf#p Ea#p Eb#p UV Ma Mb. -/
import Derived.Test.YtepiegcjnaohjaaGreatDoorS2
import Derived.Recover
import Derived.LaidMore
import Derived.LaidLaws
import Derived.LaidHandle
import Derived.MakeChecks
import Derived.Stop.Joined
import Derived.OpenShut
import Derived.Test.YtepiegcjnaohjaaGreatDoorRows
import Derived.Shelf.LaysM
import Derived.Shelf.Strings.Runes
import Derived.Test.YtepiegcjnaohjaaGreatDoorProg
import Derived.Test.YtepiegcjnaohjaaGreatDoorTie
import Derived.Test.YtepiegcjnaohjaaGreatDoorCards
import Derived.Lib.LaidTab
set_option linter.all false
set_option maxRecDepth 100000
set_option maxHeartbeats 8000000
namespace Go.VL
open Go
/-- How a call ends: a value, or a panic. -/
inductive Out where
 | val (d : D)
 | pan (ch : List PanicEntry)
def znU (k : Kr) (e : Ending) : Out → Prop
 | .val d => ∃ v, e = .returned v ∧ Rep k d v
 | .pan ch => e = .panicked ch
/-- What a call gives back, or how it panics. -/
def RetX (P : Program) (f : FuncId) (ds : List D) (obs : List (Nat × Ob)) (nx : Nat) (post : Out → List (Nat × Ob) → Nat → Prop) : Prop :=
 ∀ (k : Kr) (own : Nat → Prop) (w : World) (vs : Array Value), Sat k own obs w → (∀ i, nx ≤ i → k.hdr i = none) → (∀ b, w.heap.size ≤ b → own b) → RepL k ds vs →
  Calls P f vs w fun e w' => ∃ r obs' nx' k', znU k' e r ∧ In (.of own k nx w) k' w' ∧ Sat k' own obs' w' ∧ (∀ i, nx' ≤ i → k'.hdr i = none) ∧ nx ≤ nx' ∧ post r obs' nx'
theorem Ret.x {P f ds obs nx post} (h : Ret P f ds obs nx post) : RetX P f ds obs nx fun r o n => match r with | .val d => post d o n | .pan _ => False :=
 fun k own w vs h1 h2 h3 h4 => (h k own w vs h1 h2 h3 h4).mono fun _ _ ⟨v, d, o, n, k', e, a, b, c, g, r, hp⟩ => ⟨.val d, o, n, k', ⟨v, e, r⟩, a, b, c, g, hp⟩
theorem RetX.mono {P f ds obs nx} {p q : Out → List (Nat × Ob) → Nat → Prop} (h : RetX P f ds obs nx p) (hq : ∀ r o n, p r o n → q r o n) : RetX P f ds obs nx q :=
 fun k own w vs h1 h2 h3 h4 => (h k own w vs h1 h2 h3 h4).mono fun _ _ ⟨r, o, n, k', e, a, b, c, g, hp⟩ => ⟨r, o, n, k', e, a, b, c, g, hq _ _ _ hp⟩
theorem RetX.ret {P f ds obs nx} {p : Out → List (Nat × Ob) → Nat → Prop} {q : D → List (Nat × Ob) → Nat → Prop} (h : RetX P f ds obs nx p) (hv : ∀ d o n, p (.val d) o n → q d o n) (hx : ∀ ch o n, ¬ p (.pan ch) o n) : Ret P f ds obs nx q :=
 fun k own w vs h1 h2 h3 h4 => (h k own w vs h1 h2 h3 h4).mono fun _ _ ⟨r, o, n, k', e, a, b, c, g, hp⟩ => by
  cases r with
  | val d =>
   obtain ⟨v, e, hr⟩ := e
   exact ⟨v, d, o, n, k', e, a, b, c, g, hr, hv d o n hp⟩
  | pan ch => exact absurd hp (hx ch o n)
theorem RetX.congr {P f ds obs obs' nx post} (h : RetX P f ds obs nx post) (e : ∀ i, getK obs' i = getK obs i) : RetX P f ds obs' nx post :=
 fun k own w vs hsat hhdr hfresh hrep => h k own w vs (Sat.congr hsat fun i => (e i).symm) hhdr hfresh hrep
/-- What a call does not know of stays az it is: the memory behind it. -/
theorem zie {k k' : Kr} {own : Nat → Prop} {obs F o1 : List (Nat × Ob)} {nx : Nat} {w w' : World} (hsat : Sat k own (F ++ obs) w)
  (hin : In (.of (fun b => own b ∧ ¬ Blk k F b) k nx w) k' w') (hs1 : Sat k' (fun b => own b ∧ ¬ Blk k F b) o1 w') : Sat k' own (F ++ o1) w' := by
 have hfo : ∀ i ob, getK F i = some ob → getK (F ++ obs) i = some ob := fun i ob hi => by rw [zab, hi]
 have hFat : ∀ i ob, getK F i = some ob → ∃ g, k.hdr i = some g ∧ k'.hdr i = some g ∧ (∀ b, g.1 = some b → own b ∧ (∀ o, k'.mem b o = none) ∧ Blk k F b) ∧ ObAt k' w' g ob := fun i ob hi => by
  obtain ⟨g, h1, h2, h3⟩ := hsat.ob i ob (hfo i ob hi)
  have hB : ∀ b, g.1 = some b → Blk k F b := fun b hb => ⟨i, ob, g, hi, h1, hb⟩
  refine ⟨g, h1, hin.le.hdr i g h1, fun b hb => ⟨(h2 b hb).1, fun o => ?_, hB b hb⟩, h3.keep hin.le fun b hb => hin.block b fun hb' => hb'.2 (hB b hb)⟩
  cases hm : k'.mem b o with
  | none => rfl
  | some x =>
   rcases hin.memNew b o x hm with h4 | h4
   ·have h4' : k.mem b o = some x := h4
    rw [(h2 b hb).2 o] at h4'; cases h4'
   ·exact absurd (hB b hb) h4.2
 refine ⟨hs1.mem, fun i ob hi => ?_, fun i j x y g g' b hx hy hij hg hg' hb => ?_⟩
 ·rw [zab] at hi
  cases hf : getK F i with
  | some x =>
   rw [hf] at hi
   cases hi
   obtain ⟨g, _, h2, h3, h4⟩ := hFat i _ hf
   exact ⟨g, h2, fun b hb => ⟨(h3 b hb).1, (h3 b hb).2.1⟩, h4⟩
  | none =>
   rw [hf] at hi
   obtain ⟨g, h1, h2, h3⟩ := hs1.ob i ob hi
   exact ⟨g, h1, fun b hb => ⟨(h2 b hb).1.1, (h2 b hb).2⟩, h3⟩
 ·rw [zab] at hx hy
  cases hfx : getK F i with
  | some x' =>
   obtain ⟨g1, k1, k2, k3, _⟩ := hFat i _ hfx
   rw [hg] at k2
   cases k2
   cases hfy : getK F j with
   | some y' =>
    obtain ⟨g2, l1, l2, l3, _⟩ := hFat j _ hfy
    rw [hg'] at l2
    cases l2
    exact hsat.apart i j x' y' g g' b (hfo i _ hfx) (hfo j _ hfy) hij k1 l1 hb
   | none =>
    rw [hfy] at hy
    obtain ⟨g2, l1, l2, _⟩ := hs1.ob j y hy
    rw [hg'] at l1
    cases l1
    exact fun e => (l2 b e).1.2 (k3 b hb).2.2
  | none =>
   rw [hfx] at hx
   cases hfy : getK F j with
   | some y' =>
    obtain ⟨g2, l1, l2, l3, _⟩ := hFat j _ hfy
    rw [hg'] at l2
    cases l2
    obtain ⟨g1, k1, k2, _⟩ := hs1.ob i x hx
    rw [hg] at k1
    cases k1
    exact fun e => (k2 b hb).1.2 (l3 b e).2.2
   | none =>
    rw [hfy] at hy
    exact hs1.apart i j x y g g' b hx hy hij hg hg' hb
theorem zgz {k : Kr} {own : Nat → Prop} {obs F : List (Nat × Ob)} {w : World} (hF : ∀ i ob, getK F i = some ob → getK obs i = none) (hsat : Sat k own (F ++ obs) w) : Sat k (fun b => own b ∧ ¬ Blk k F b) obs w := by
 have hob : ∀ i ob, getK obs i = some ob → getK F i = none ∧ getK (F ++ obs) i = some ob := fun i ob hi => by
  have hn : getK F i = none := by
   cases hf : getK F i with
   | none => rfl
   | some x => rw [hF i x hf] at hi; cases hi
  exact ⟨hn, by rw [zab, hn]; exact hi⟩
 have hfo : ∀ i ob, getK F i = some ob → getK (F ++ obs) i = some ob := fun i ob hi => by rw [zab, hi]
 refine ⟨hsat.mem, fun i ob hi => ?_, fun i j x y g g' b hx hy hij => ?_⟩
 ·obtain ⟨hn, hi'⟩ := hob i ob hi
  obtain ⟨g, h1, h2, h3⟩ := hsat.ob i ob hi'
  refine ⟨g, h1, fun b hb => ⟨⟨(h2 b hb).1, ?_⟩, (h2 b hb).2⟩, h3⟩
  rintro ⟨j, oj, g', h4, h5, h6⟩
  exact hsat.apart i j ob oj g g' b hi' (hfo j oj h4) (fun e => by subst e; rw [hn] at h4; cases h4) h1 h5 hb h6
 ·exact hsat.apart i j x y g g' b (hob i x hx).2 (hob j y hy).2 hij
theorem zfV {k : Kr} {own : Nat → Prop} {obs F : List (Nat × Ob)} {w : World} (hsat : Sat k own (F ++ obs) w) (hfresh : ∀ b, w.heap.size ≤ b → own b) : ∀ b, w.heap.size ≤ b → own b ∧ ¬ Blk k F b := fun b hb => by
 refine ⟨hfresh b hb, fun hB => ?_⟩
 obtain ⟨i, ob, g, h1, h2, h3⟩ := hB
 exact absurd (hsat.lt ⟨i, ob, g, by rw [zab, h1], h2, h3⟩) (by omega)
theorem zjK {k k' : Kr} {own : Nat → Prop} {F : List (Nat × Ob)} {nx : Nat} {w w' : World} (hfresh : ∀ b, w.heap.size ≤ b → own b) (hin : In (.of (fun b => own b ∧ ¬ Blk k F b) k nx w) k' w') : In (.of own k nx w) k' w' :=
 ⟨hin.le, hin.none0, fun b o x hx => (hin.memNew b o x hx).imp id (·.1), hfresh, hin.os, hin.tape, hin.output, hin.size, fun b hb => hin.block b fun hb' => hb hb'.1⟩
theorem RetX.frame {P f ds obs nx post} (F : List (Nat × Ob)) (hF : ∀ i ob, getK F i = some ob → getK obs i = none) (h : RetX P f ds obs nx post) :
  RetX P f ds (F ++ obs) nx (fun r o n => ∃ o1, o = F ++ o1 ∧ post r o1 n) := by
 intro k own w vs hsat hhdr hfresh hrep
 refine (h k _ w vs (zgz hF hsat) hhdr (zfV hsat hfresh) hrep).mono ?_
 rintro e w' ⟨r, o1, n', k', he, hin, hs1, hh1, hle, hp⟩
 exact ⟨r, F ++ o1, n', k', he, zjK hfresh hin, zie hsat hin hs1, hh1, hle, o1, rfl, hp⟩
/-- A call that may panic, by what it does to the objects. -/
theorem EffP.zqi {P Γ s k} {fop : Operand} {args : Array Operand} {ts : Array TypeId} {ty : TypeId} {f caps dst pos after} {ds : List D} {post : Out → List (Nat × Ob) → Nat → Prop}
  (hf : zaA (opd s fop) = some (f, caps)) (hc : zal P f = true) (hds : args.toList.map (opd s) ++ caps = ds) (hret : RetX P f ds s.obs s.next post) (hp : zaI dst s)
  (hk : ∀ d obs' nx', s.next ≤ nx' → post (.val d) obs' nx' → k (({ s with obs := obs', next := nx' } : St).put dst d))
  (hx : ∀ ch obs' nx', s.next ≤ nx' → post (.pan ch) obs' nx' → ∃ s2, Wk Γ { s with obs := obs', next := nx' } s2 ∧ Γ.pan ch s2) :
  EffP P Γ { dst, op := .call { callee := .value fop, args, argTypes := ts }, type := ty, pos, after, guard := none } s k := by
 intro K a w hin hs Kont Q hK hP
 obtain ⟨vs, hrep, hrun⟩ := zhl hs (args := args) (ts := ts) (ty := ty) hf hc dst pos after none
 rw [hds] at hrep
 unfold Oper.wp
 rw [hrun]
 refine Calls.mono (hret K Γ.own w vs hs.sat hs.hdr (fun b hb => hin.own_of_ge hb) hrep) ?_
 rintro e w' ⟨r, obs', nx', k', hr, hin', hsat', hhdr', hnx, hpost⟩
 have hle : K.le k' := hin'.le
 have hin2 : In Γ k' w' := hin.step hle (fun b o v e => hin'.memNew b o v e) hin'.os hin'.tape hin'.output hin'.size hin'.block
 have hsim : Sim k' Γ.own ({ s with obs := obs', next := nx' } : St) a w' := ⟨hsat', hs.defers, hs.size, fun x d hx => ⟨(hs.env x d hx).1, (hs.env x d hx).2.mono hle⟩, hhdr'⟩
 cases r with
 | val d =>
  obtain ⟨v, rfl, hr⟩ := hr
  exact hK k' _ w' _ hin2 (hsim.put (by cases dst <;> simp_all [zaI]) hr) (hk d obs' nx' hnx hpost)
 | pan ch =>
  obtain rfl := hr
  obtain ⟨s2, hw, hpn⟩ := hx ch obs' nx' hnx hpost
  obtain ⟨k2, g1, g2⟩ := hw k' a w' hin2 hsim
  exact hP ch k2 a w' s2 g1 g2 hpn
theorem CallP.x_ {P : Program} {Γ : Ctx} {s : St} {k : St → Prop} {dst : Option Tmp} {fop : Operand} {args : List Operand} {f caps} {ds : List D} {post : Out → List (Nat × Ob) → Nat → Prop} (hret : RetX P f ds s.obs s.next post)
  (hf : zaA (opd s fop) = some (f, caps)) (hc : zal P f = true) (hds : args.map (opd s) ++ caps = ds) (hp : zaI dst s)
  (hk : ∀ d obs' nx', s.next ≤ nx' → post (.val d) obs' nx' → k (({ s with obs := obs', next := nx' } : St).put dst d))
  (hx : ∀ ch obs' nx', s.next ≤ nx' → post (.pan ch) obs' nx' → ∃ s2, Wk Γ { s with obs := obs', next := nx' } s2 ∧ Γ.pan ch s2) : CallP P Γ fop args dst s k :=
 fun _ _ _ _ => EffP.zqi hf hc hds hret hp hk hx
theorem CallP.xF {P : Program} {Γ : Ctx} {s : St} {k : St → Prop} {dst : Option Tmp} {fop : Operand} {args : List Operand} {f caps} {ds : List D} {post : Out → List (Nat × Ob) → Nat → Prop} (F obs : List (Nat × Ob)) (hret : RetX P f ds obs s.next post)
  (heq : ∀ i, getK s.obs i = getK (F ++ obs) i) (hF : ∀ i ob, getK F i = some ob → getK obs i = none)
  (hf : zaA (opd s fop) = some (f, caps)) (hc : zal P f = true) (hds : args.map (opd s) ++ caps = ds) (hp : zaI dst s)
  (hk : ∀ d o1 nx', s.next ≤ nx' → post (.val d) o1 nx' → k (({ s with obs := F ++ o1, next := nx' } : St).put dst d))
  (hx : ∀ ch o1 nx', s.next ≤ nx' → post (.pan ch) o1 nx' → ∃ s2, Wk Γ { s with obs := F ++ o1, next := nx' } s2 ∧ Γ.pan ch s2) : CallP P Γ fop args dst s k :=
 CallP.x_ ((hret.frame F hF).congr heq) hf hc hds hp (fun d o n hn ⟨o1, ho, hpo⟩ => by subst ho; exact hk d o1 n hn hpo) (fun ch o n hn ⟨o1, ho, hpo⟩ => by subst ho; exact hx ch o1 n hn hpo)
theorem CallP.x0 {P : Program} {Γ : Ctx} {s : St} {k : St → Prop} {dst : Option Tmp} {fop : Operand} {args : List Operand} {f caps} {ds : List D} {post : Out → List (Nat × Ob) → Nat → Prop} (hret : RetX P f ds [] s.next post)
  (hf : zaA (opd s fop) = some (f, caps)) (hc : zal P f = true) (hds : args.map (opd s) ++ caps = ds) (hp : zaI dst s)
  (hk : ∀ d o1 nx', s.next ≤ nx' → post (.val d) o1 nx' → k (({ s with obs := s.obs ++ o1, next := nx' } : St).put dst d))
  (hx : ∀ ch o1 nx', s.next ≤ nx' → post (.pan ch) o1 nx' → ∃ s2, Wk Γ { s with obs := s.obs ++ o1, next := nx' } s2 ∧ Γ.pan ch s2) : CallP P Γ fop args dst s k :=
 CallP.xF s.obs [] hret (fun i => by simp) (fun i ob _ => rfl) hf hc hds hp hk hx
theorem CallP.x1 {P : Program} {Γ : Ctx} {s : St} {k : St → Prop} {dst : Option Tmp} {fop : Operand} {args : List Operand} {f caps} {ds : List D} {post : Out → List (Nat × Ob) → Nat → Prop} {j : Nat} {ob : Ob} (hret : RetX P f ds [(j, ob)] s.next post)
  (hj : getK s.obs j = some ob) (hf : zaA (opd s fop) = some (f, caps)) (hc : zal P f = true) (hds : args.map (opd s) ++ caps = ds) (hp : zaI dst s)
  (hk : ∀ d o1 nx', s.next ≤ nx' → post (.val d) o1 nx' → k (({ s with obs := del s.obs j ++ o1, next := nx' } : St).put dst d))
  (hx : ∀ ch o1 nx', s.next ≤ nx' → post (.pan ch) o1 nx' → ∃ s2, Wk Γ { s with obs := del s.obs j ++ o1, next := nx' } s2 ∧ Γ.pan ch s2) : CallP P Γ fop args dst s k :=
 CallP.xF (del s.obs j) [(j, ob)] hret (fun i => by
  rw [zab, zac]
  by_cases h : i = j
  ·subst h; simp [hj, getK]
  ·simp only [if_neg h, getK]
   cases getK s.obs i <;> rfl) (fun i o hi => by
  rw [zac] at hi
  by_cases h : i = j
  ·rw [if_pos h] at hi; cases hi
  ·simp [getK, h]) hf hc hds hp hk hx
/-- A call that is handed one object, and goes through, or panics. -/
theorem CallP.ok1 {P : Program} {Γ : Ctx} {s : St} {k : St → Prop} {dst : Option Tmp} {fop : Operand} {args : List Operand} {f caps} {ds : List D} {j : Nat} {ob ob' : Ob} {d : D}
  (hret : RetX P f ds [(j, ob)] s.next fun r o n => r = .val d ∧ o = [(j, ob')] ∧ n = s.next)
  (hj : getK s.obs j = some ob) (hf : zaA (opd s fop) = some (f, caps)) (hc : zal P f = true) (hds : args.map (opd s) ++ caps = ds) (hp : zaI dst s)
  (hk : k (({ s with obs := del s.obs j ++ [(j, ob')], next := s.next } : St).put dst d)) : CallP P Γ fop args dst s k :=
 CallP.x1 hret hj hf hc hds hp (fun d' o1 nx' _ ⟨h1, h2, h3⟩ => by cases h1; subst h2; subst h3; exact hk) (fun ch o1 nx' _ ⟨h1, _⟩ => by cases h1)
theorem CallP.zed {P : Program} {Γ : Ctx} {s : St} {k : St → Prop} {dst : Option Tmp} {fop : Operand} {args : List Operand} {f caps} {ds : List D} {j : Nat} {ob : Ob} {ch : List PanicEntry} {p : Ob → Prop}
  (hret : RetX P f ds [(j, ob)] s.next fun r o n => r = .pan ch ∧ (∃ ob', p ob' ∧ o = [(j, ob')]) ∧ n = s.next)
  (hj : getK s.obs j = some ob) (hf : zaA (opd s fop) = some (f, caps)) (hc : zal P f = true) (hds : args.map (opd s) ++ caps = ds) (hp : zaI dst s)
  (hx : ∀ ob', p ob' → ∃ s2, Wk Γ { s with obs := del s.obs j ++ [(j, ob')], next := s.next } s2 ∧ Γ.pan ch s2) : CallP P Γ fop args dst s k :=
 CallP.x1 hret hj hf hc hds hp (fun d' o1 nx' _ ⟨h1, _⟩ => by cases h1) (fun ch' o1 nx' _ ⟨h1, ⟨ob', h2, h3⟩, h4⟩ => by cases h1; subst h3; subst h4; exact hx ob' h2)
/-- The same, and a second object that is gone behind it. -/
theorem CallP.x2 {P : Program} {Γ : Ctx} {s : St} {k : St → Prop} {dst : Option Tmp} {fop : Operand} {args : List Operand} {f caps} {ds : List D} {post : Out → List (Nat × Ob) → Nat → Prop} {j q : Nat} {ob oq : Ob} (hret : RetX P f ds [(j, ob), (q, oq)] s.next post)
  (hj : getK s.obs j = some ob) (hq : getK s.obs q = some oq) (hne : j ≠ q) (hf : zaA (opd s fop) = some (f, caps)) (hc : zal P f = true) (hds : args.map (opd s) ++ caps = ds) (hp : zaI dst s)
  (hk : ∀ d o1 nx', s.next ≤ nx' → post (.val d) o1 nx' → k (({ s with obs := del (del s.obs j) q ++ o1, next := nx' } : St).put dst d))
  (hx : ∀ ch o1 nx', s.next ≤ nx' → post (.pan ch) o1 nx' → ∃ s2, Wk Γ { s with obs := del (del s.obs j) q ++ o1, next := nx' } s2 ∧ Γ.pan ch s2) : CallP P Γ fop args dst s k :=
 CallP.xF (del (del s.obs j) q) [(j, ob), (q, oq)] hret (fun i => by
  rw [zab, zac, zac]
  by_cases h : i = q
  ·subst h; rw [if_pos rfl]; simp [getK, Ne.symm hne, hq]
  ·rw [if_neg h]
   by_cases h2 : i = j
   ·subst h2; simp [hj, getK]
   ·simp only [if_neg h2, getK, if_neg h]
    cases getK s.obs i <;> rfl) (fun i o hi => by
  rw [zac, zac] at hi
  by_cases h : i = q
  ·rw [if_pos h] at hi; cases hi
  ·rw [if_neg h] at hi
   by_cases h2 : i = j
   ·rw [if_pos h2] at hi; cases hi
   ·simp [getK, h, h2]) hf hc hds hp hk hx
/-- The same call, nothing put off. -/
def Ctx.base (Γ : Ctx) : Ctx := .of Γ.own.own Γ.k0 Γ.n0 Γ.w0
/-- A panic, up to what the state may be told az. -/
def zpg (Γ : Ctx) (post : Out → List (Nat × Ob) → Nat → Prop) (ch : List PanicEntry) (s : St) : Prop := ∃ s', Wk Γ s s' ∧ Γ.n0 ≤ s'.next ∧ post (.pan ch) s'.obs s'.next
/-- What a call leaves behind. -/
def RX (Γ : Ctx) (post : Out → List (Nat × Ob) → Nat → Prop) (e : Ending) (w' : World) : Prop :=
 ∃ r obs' nx' k', znU k' e r ∧ In Γ k' w' ∧ Sat k' Γ.own obs' w' ∧ (∀ i, nx' ≤ i → k'.hdr i = none) ∧ Γ.n0 ≤ nx' ∧ post r obs' nx'
theorem zdQ {P Γ fn e s K a w} {post : Out → List (Nat × Ob) → Nat → Prop} (hend : EndW P Γ fn Γ.n0 (fun d o n => post (.val d) o n) e s) (hin : In Γ K w) (hs : Sim K Γ.own s a w) :
  ∃ v, (results fn a.tmps).run P w = .ok v w ∧ RX Γ post (.returned v) w := by
 obtain ⟨s', hw, _, hres⟩ := hend
 obtain ⟨K', hin, hs⟩ := hw K a w hin hs
 obtain ⟨rs, rv, hfin, hrun, hlen, hr⟩ := zfm hs _ _ hres
 have hres' : (results fn a.tmps).run P w = .ok (if h : rv.toArray.size = 1 then rv.toArray[0] else .tuple rv.toArray) w := by
  unfold results
  rw [Array.mapM_eq_mapM_toList]
  have e : (fn.results.toList.mapM fun (x : ResultVar) => match x with | .tmp t => (pure (a.tmps.getD t undef) : Sem Value) | .cell x t => do loadVar t (← asAddr (a.tmps.getD x undef))).run P w = .ok rv w := hrun
  simp only [Sem.run_bind, Sem.run_map, Result.andThen_ok]
  erw [e]
  simp
 have hrepv : Rep K' (zaf rs) (if h : rv.toArray.size = 1 then rv.toArray[0] else .tuple rv.toArray) := by
  match rs, rv, hlen, hr with
  | [], [], _, hr => exact .tup [] [] rfl (by simp)
  | [d], [v], _, hr => simpa [zaf] using hr 0 d rfl
  | d :: d1 :: ds, v :: v1 :: vs, hlen, hr =>
   simp only [zaf]
   rw [dif_neg (by simp)]
   exact .tup _ _ hlen hr
 refine ⟨_, hres', ?_⟩
 rcases hfin with ⟨s2, ρ, d', hle, hd, hu, hnx, hpost⟩ | ⟨hnx, hpost⟩
 ·obtain ⟨h1, h2⟩ := Sim.weak hin hs hle
  exact ⟨.val d', s2.obs, s2.next, _, ⟨_, rfl, hrepv.weak hd hu⟩, h1, h2.sat, h2.hdr, hnx, hpost⟩
 ·exact ⟨.val _, s'.obs, s'.next, K', ⟨_, rfl, hrepv⟩, hin, hs.sat, hs.hdr, hnx, hpost⟩
theorem RX.conv {Γ Γ' : Ctx} {post e w'} (h : RX Γ post e w') (h1 : Γ'.own.own = Γ.own.own) (h2 : Γ'.k0 = Γ.k0) (h3 : Γ'.n0 = Γ.n0) (h4 : Γ'.w0 = Γ.w0) : RX Γ' post e w' := by
 obtain ⟨r, o, n, k', a, b, c, d, e, f⟩ := h
 exact ⟨r, o, n, k', a, b.conv h1 h2 h3 h4, by rw [h1]; exact c, d, by rw [h3]; exact e, f⟩
theorem Wk.conv {Γ Γ' : Ctx} {s s'} (h : Wk Γ s s') (h1 : Γ'.own = Γ.own) (h2 : Γ'.k0 = Γ.k0) (h3 : Γ'.n0 = Γ.n0) (h4 : Γ'.w0 = Γ.w0) : Wk Γ' s s' := fun K a w hin hs => by
 obtain ⟨K', g1, g2⟩ := h K a w (hin.conv (by rw [h1]) h2.symm h3.symm h4.symm) (by rw [← h1]; exact hs)
 exact ⟨K', g1.conv (by rw [h1]) h2 h3 h4, by rw [h1]; exact g2⟩
/-- A function's body, with all the ways in which it may end. -/
theorem RetX.zfs {P f fn c ds obs nx post} (hf : P.funcs[f]? = some fn) (hb : fn.body = some c) (hn : ds.length ≤ fn.ntmps)
  (h : ∀ Γ : Ctx, Γ.n0 = nx → Γ.own.dfr = [] → (∀ ch s, zpg Γ post ch s → Γ.pan ch s) → (∀ e a w', bodyPostD P fn (RX Γ.base post) e a w' → Γ.esc e a w') → V P Γ c (entry ds fn.ntmps obs nx) (zan P Γ (EndW P Γ fn nx fun d o n => post (.val d) o n) .done)) : RetX P f ds obs nx post := by
 intro k own w vs hsat hhdr hfresh hrep
 have hsz : vs.size = ds.length := hrep.1
 let Γ0 : Ctx := .of own k nx w
 let Γ : Ctx := ⟨⟨own, []⟩, k, nx, w, zpg Γ0 post, bodyPostD P fn (RX Γ0 post)⟩
 have hpan : ∀ ch s, zpg Γ post ch s → Γ.pan ch s := fun ch s ⟨s', h1, h2, h3⟩ => ⟨s', h1.conv rfl rfl rfl rfl, h2, h3⟩
 have hR : ∀ e w', RX Γ post e w' → RX Γ0 post e w' := fun e w' h => h.conv rfl rfl rfl rfl
 have hesc : ∀ e a w', bodyPostD P fn (RX Γ.base post) e a w' → Γ.esc e a w' := fun e a w' h => h
 refine calls_of_wp_defers (R := RX Γ0 post) hf hb (wp_mono (h Γ rfl rfl hpan hesc k _ w ⟨.refl _, hhdr, fun b o v e => .inl e, hfresh, rfl, rfl, rfl, Nat.le_refl _, fun _ _ => rfl⟩
  ⟨hsat, rfl, ?_, fun x d hx => ?_, hhdr⟩) ?_)
 ·simp [entry, hsz]; omega
 ·simp only [entry, zel, Nat.zero_le, if_true, Nat.sub_zero] at hx
  have hlt := (List.getElem?_eq_some_iff.1 hx).1
  refine ⟨by simp [entry]; omega, ?_⟩
  have := hrep.2 x d hx
  have e : (vs ++ Array.replicate (fn.ntmps - vs.size) undef).getD x undef = vs.getD x undef := by
   simp [Array.getElem?_append, show x < vs.size by omega]
  rw [e]
  exact this
 ·rintro e a' w' (⟨K', s', hin, hs, hend⟩ | hx)
  ·have hd : a'.defers = [] := hs.defers
   cases e with
   | panic ch =>
    obtain ⟨s2, hw, hn2, hp⟩ := (hend : zpg Γ0 post ch s')
    obtain ⟨K2, h1, h2⟩ := hw K' a' w' (hin.conv rfl rfl rfl rfl) hs
    show Leaves P fn a'.tmps (RX Γ0 post) a'.defers (.panicking ch) w'
    rw [hd]
    exact ⟨.pan ch, s2.obs, s2.next, K2, rfl, h1, h2.sat, h2.hdr, hn2, hp⟩
   | normal =>
    obtain ⟨v, h1, h2⟩ := zdQ (Γ := Γ) (post := post) hend hin hs
    show Leaves P fn a'.tmps (RX Γ0 post) a'.defers .returning w'
    rw [hd]
    exact ⟨v, h1, hR _ _ h2⟩
   | ret =>
    obtain ⟨v, h1, h2⟩ := zdQ (Γ := Γ) (post := post) hend hin hs
    show Leaves P fn a'.tmps (RX Γ0 post) a'.defers .returning w'
    rw [hd]
    exact ⟨v, h1, hR _ _ h2⟩
   | exit i => obtain ⟨_, _, h1, _⟩ := hend; rcases h1 with h1 | h1 <;> cases h1
   | goto i => obtain ⟨_, _, h1, _⟩ := hend; rcases h1 with h1 | h1 <;> cases h1
   | outgrown => obtain ⟨_, _, h1, _⟩ := hend; rcases h1 with h1 | h1 <;> cases h1
  ·exact hx.2
theorem RetX.of_bodyW {P f fn c ds obs nx post} (hf : P.funcs[f]? = some fn) (hb : fn.body = some c) (hn : ds.length ≤ fn.ntmps)
  (h : ∀ Γ : Ctx, Γ.n0 = nx → (∀ ch s, zpg Γ post ch s → Γ.pan ch s) → V P Γ c (entry ds fn.ntmps obs nx) (zan P Γ (EndW P Γ fn nx fun d o n => post (.val d) o n) .done)) : RetX P f ds obs nx post :=
 RetX.zfs hf hb hn fun Γ h1 _ h2 _ => h Γ h1 h2
end Go.VL
namespace Go.VL
open Go
/-- Code at which a walk stops. -/
@[irreducible] def zpr (c : Code) : Code := c
theorem zl1 (c : Code) : zpr c = c := by unfold zpr; rfl
theorem zgy {id : Nat} {o1 : Oper} {dst : Option Tmp} {cl : Call} {type : TypeId} {pos : String} {after : Array Edge} {guard : Option (Nat × Bool)} {rest : Code} :
  Code.seq (.region id #[o1, { dst, op := .defer cl, type, pos, after, guard }] false) rest = zpr (.seq (.region id #[o1, { dst, op := .defer cl, type, pos, after, guard }] false) rest) := (zl1 _).symm
/-- What a deferred function does to the objects, and to the frame below. -/
def RetDf (P : Program) (g : FuncId) (caps : List D) (obs : List (Nat × Ob)) (nx : Nat) (u : FrameMode) (post : FrameMode → List (Nat × Ob) → Nat → Prop) : Prop :=
 ∀ (k : Kr) (own : Nat → Prop) (w : World) (vs : Array Value), Sat k own obs w → (∀ i, nx ≤ i → k.hdr i = none) → (∀ b, w.heap.size ≤ b → own b) → RepL k caps vs →
  CallsD P g vs u w fun e u' w' => ∃ v obs' nx' k', e = .returned v ∧ In (.of own k nx w) k' w' ∧ Sat k' own obs' w' ∧ (∀ i, nx' ≤ i → k'.hdr i = none) ∧ nx ≤ nx' ∧ post u' obs' nx'
theorem RetDf.mono {P g caps obs nx u} {p q : FrameMode → List (Nat × Ob) → Nat → Prop} (h : RetDf P g caps obs nx u p) (hq : ∀ u o n, p u o n → q u o n) : RetDf P g caps obs nx u q :=
 fun k own w vs h1 h2 h3 h4 => (h k own w vs h1 h2 h3 h4).mono fun _ _ _ ⟨v, o, n, k', e, a, b, c, d, hp⟩ => ⟨v, o, n, k', e, a, b, c, d, hq _ _ _ hp⟩
theorem RetDf.congr {P g caps obs obs' nx u post} (h : RetDf P g caps obs nx u post) (e : ∀ i, getK obs' i = getK obs i) : RetDf P g caps obs' nx u post :=
 fun k own w vs hsat hhdr hfresh hrep => h k own w vs (Sat.congr hsat fun i => (e i).symm) hhdr hfresh hrep
theorem RetDf.frame {P g caps obs nx u post} (F : List (Nat × Ob)) (hF : ∀ i ob, getK F i = some ob → getK obs i = none) (h : RetDf P g caps obs nx u post) :
  RetDf P g caps (F ++ obs) nx u (fun u o n => ∃ o1, o = F ++ o1 ∧ post u o1 n) := by
 intro k own w vs hsat hhdr hfresh hrep
 refine (h k _ w vs (zgz hF hsat) hhdr (zfV hsat hfresh) hrep).mono ?_
 rintro e u' w' ⟨v, o1, n', k', he, hin, hs1, hh1, hle, hp⟩
 exact ⟨v, F ++ o1, n', k', he, zjK hfresh hin, zie hsat hin hs1, hh1, hle, o1, rfl, hp⟩
/-- Where a function leaves that has put off g: the deferred call makes its end good. -/
def LeaveD (P : Program) (Γb : Ctx) (fn : Func) (post : Out → List (Nat × Ob) → Nat → Prop) (g : FuncId) (caps : List D) (u : FrameMode) (s : St) : Prop :=
 RetDf P g caps s.obs s.next u fun u' o n => settle u' = .returning ∧ EndW P Γb fn Γb.n0 (fun d o n => post (.val d) o n) .ret { s with obs := o, next := n }
def zsY (P : Program) (Γb : Ctx) (fn : Func) (post : Out → List (Nat × Ob) → Nat → Prop) (g : FuncId) (caps : List D) (e : Exit) (s : St) : Prop := e = .ret ∧ LeaveD P Γb fn post g caps .returning s
theorem zkt {P Γ Γ' fn post g caps u s K K1 a w w1} (hmode : u ≠ .run) (h : LeaveD P Γ.base fn post g caps u s) (hin1 : In Γ K1 w1) (hin : In Γ' K w) (hs : Sim K Γ'.own s a w) (ho : Γ'.own.own = Γ.own.own) (hk : Γ'.k0 = K1) (hn : ∀ i, Γ'.n0 ≤ i → K1.hdr i = none) (hw : Γ'.w0 = w1)
  (hc : zal P g = true) (vs : Array Value) (hrep : RepL K1 caps vs) :
  Leaves P fn a.tmps (RX Γ.base post) [{ target := .fn (.func g) vs, args := #[] }] u w := by
 have hle1 : K1.le K := by rw [← hk]; exact hin.le
 have hin0 : In Γ K w := hin1.step hle1 (fun b o v e => by have := hin.memNew b o v e; rw [hk, ho] at this; exact this) (by rw [hin.os, hw]) (by rw [hin.tape, hw]) (by rw [hin.output, hw]) (by have := hin.size; rw [hw] at this; exact this)
  (fun b hb => by have := hin.block b (by rw [ho]; exact hb); rw [hw] at this; exact this)
 refine leaves_cons (f := g) (args := vs) hmode ?_ ?_
 ·unfold zal at hc
  split at hc
  ·rename_i fn' hfn
   simp at hc
   obtain ⟨hb, hname⟩ := hc
   have hb' : fn'.body.isNone = false := by cases hbb : fn'.body <;> simp_all
   simp [invoke, callFunc, hfn, hb', hname]
   intro h0
   rw [h0] at hb
   simp at hb
  ·cases hc
 ·refine (h K Γ'.own.own w vs hs.sat hs.hdr (fun b hb => by rw [ho]; exact hin0.own_of_ge hb) ⟨hrep.1, fun j d hj => (hrep.2 j d hj).mono hle1⟩).mono ?_
  rintro e u' w' ⟨v, o, n, k', rfl, hin2, hsat, hhdr, hnx, hset, hend⟩
  rw [ho] at hin2 hsat
  have hin3 : In Γ k' w' := hin0.step hin2.le (fun b o v e => hin2.memNew b o v e) hin2.os hin2.tape hin2.output hin2.size hin2.block
  have hsim : Sim k' Γ.base.own ({ s with obs := o, next := n } : St) { a with defers := [] } w' := ⟨hsat, rfl, hs.size, fun x d hx => ⟨(hs.env x d hx).1, (hs.env x d hx).2.mono hin2.le⟩, hhdr⟩
  obtain ⟨v', h1, h2⟩ := zdQ (Γ := Γ.base) (post := post) hend (hin3.conv rfl rfl rfl rfl) hsim
  show Leaves P fn a.tmps (RX Γ.base post) [] (settle u') w'
  rw [hset]
  exact ⟨v', h1, h2⟩
/-- A function value is made and put off: what follows is walked in a context of its own. -/
theorem zmt {P Γ fn post s Q kt id g t type pos after type2 pos2 after2 rest} {ts : Array TypeId} {caps : List Operand}
  (hesc : ∀ e a w', bodyPostD P fn (RX Γ.base post) e a w' → Γ.esc e a w') (hd : Γ.own.dfr = []) (hc : zal P g = true) (ht : t < s.n)
  (h : ∀ Γ' : Ctx, Γ'.n0 = s.next → (∀ ch s2, LeaveD P Γ.base fn post g (caps.map (opd s)) (.panicking ch) s2 → Γ'.pan ch s2) →
    V P Γ' rest (s.put (some t) (.fnc (.func g) (caps.map (opd s)))) (zan P Γ' (zsY P Γ.base fn post g (caps.map (opd s))) .done)) :
  V P Γ (zpr (.seq (.region id #[{ dst := some t, op := .makeFunc (.func g) #[] caps.toArray, type := type, pos := pos, after := after, guard := none },
   { dst := none, op := .defer { callee := .value (.tmp t), args := #[], argTypes := ts }, type := type2, pos := pos2, after := after2, guard := none }] false) rest)) s (zan P Γ Q kt) := by
 rw [zl1]
 intro K a w hin hs
 refine wp_seq (wp_region_lit ?_)
 have hrep : RepL K (caps.map (opd s)) (caps.map a.eval).toArray := ⟨by simp, fun j d hj => by have := zdN hs caps j d hj; simpa using this⟩
 have hfv : Rep K (.fnc (.func g) (caps.map (opd s))) (.func (.func g) #[] (caps.map a.eval).toArray) := .fnc _ _ _ (by simp) (zdN hs caps)
 have hts : t < a.tmps.size := by rw [hs.size]; exact ht
 refine wpList_plain rfl fun K1 hK1 => ?_
 have hrun1 : (execOp a.eval { dst := some t, op := .makeFunc (.func g) #[] caps.toArray, type := type, pos := pos, after := after, guard := none }).run P w = .ok (.value (.func (.func g) #[] (caps.map a.eval).toArray)) w := by
  simp [execOp, Instr.makeFunc]
 unfold Oper.wp
 rw [hrun1]
 refine hK1 _ _ (wpList_plain rfl fun K2 hK2 => ?_)
 generalize ha1 : (a.put (some t) (.func (.func g) #[] (caps.map a.eval).toArray)) = a1
 have hev : a1.eval (.tmp t) = .func (.func g) #[] (caps.map a.eval).toArray := by
  subst ha1
  simp [Act.eval, Act.put, hts]
 have hrun2 : (execOp a1.eval { dst := none, op := .defer { callee := .value (.tmp t), args := #[], argTypes := ts }, type := type2, pos := pos2, after := after2, guard := none }).run P w = .ok (.defer { target := .fn (.func g) (caps.map a.eval).toArray, args := #[] }) w := by
  simp [execOp, resolve, hev, Deferred.ofValue]
 unfold Oper.wp
 rw [hrun2]
 refine hK2 _ _ ?_
 let Γ' : Ctx := ⟨⟨Γ.own.own, [{ target := .fn (.func g) (caps.map a.eval).toArray, args := #[] }]⟩, K, s.next, w, fun ch s2 => LeaveD P Γ.base fn post g (caps.map (opd s)) (.panicking ch) s2, fun _ _ _ => False⟩
 have hin' : In Γ' K w := ⟨.refl _, hs.hdr, fun b o v e => .inl e, fun b hb => hin.own_of_ge hb, rfl, rfl, rfl, Nat.le_refl _, fun _ _ => rfl⟩
 have hs1 : Sim K Γ.own (s.put (some t) (.fnc (.func g) (caps.map (opd s)))) a1 w := by
  subst ha1
  exact hs.put (by simpa [zaI] using ht) hfv
 have hs' : Sim K Γ'.own (s.put (some t) (.fnc (.func g) (caps.map (opd s)))) (({ a1 with defers := { target := .fn (.func g) (caps.map a.eval).toArray, args := #[] } :: a1.defers } : Act).put none undef) w :=
  ⟨hs1.sat, by have := hs1.defers; rw [hd] at this; show _ :: a1.defers = _; rw [this], hs1.size, hs1.env, hs1.hdr⟩
 refine wp_mono (h Γ' rfl (fun ch s2 h => h) K _ w hin' hs') ?_
 rintro e a' w' (⟨K', s', h1, h2, h3⟩ | h3)
 ·have hdf : a'.defers = [{ target := .fn (.func g) (caps.map a.eval).toArray, args := #[] }] := h2.defers
  have go : ∀ u, u ≠ .run → LeaveD P Γ.base fn post g (caps.map (opd s)) u s' → Leaves P fn a'.tmps (RX Γ.base post) a'.defers u w' := fun u hu hl => by
   rw [hdf]
   exact zkt hu hl hin h1 h2 rfl rfl hs.hdr rfl hc _ hrep
  cases e with
  | panic ch => exact .inr ⟨trivial, hesc _ _ _ (go (.panicking ch) (by simp) h3)⟩
  | ret => exact .inr ⟨trivial, hesc _ _ _ (go .returning (by simp) h3.2)⟩
  | normal => exact absurd h3.1 (by simp)
  | exit i => exact absurd h3.1 (by simp)
  | goto i => exact absurd h3.1 (by simp)
  | outgrown => exact absurd h3.1 (by simp)
 ·exact h3.2.elim
def HS (P : Program) (Γ : Ctx) : List Oper → St → (St → Prop) → Prop
 | [], s, k => k s
 | o :: l, s, k => o.guard = none ∧ zb9 P Γ o.dst o.op s fun s' => HS P Γ l s' k
theorem znO {P Γ cs} {Q : Exit → Act → List Frame → World → Prop} {k : St → Prop} (ops : Array Oper) : ∀ (l : List Oper) (i : Nat) (s : St) (K : Kr) (a : Act) (w : World), (∀ j, ops[i + j]? = l[j]?) → HS P Γ l s k → In Γ K w → Sim K Γ.own s a w →
  (∀ K' a' w' s', In Γ K' w' → Sim K' Γ.own s' a' w' → k s' → Q .normal a' cs w') → (∀ ch K' a' w' s', In Γ K' w' → Sim K' Γ.own s' a' w' → Γ.pan ch s' → Q (.panic ch) a' cs w') →
  wpOpsS P ops Q (List.range' i l.length) a cs w
 | [], i, s, K, a, w, _, h, hin, hs, hQ, _ => by simpa [wpOpsS] using hQ K a w s hin hs h
 | o :: l, i, s, K, a, w, ho, h, hin, hs, hQ, hP => by
  have h0 : ops[i]? = some o := by simpa using ho 0
  obtain ⟨hg, hst⟩ := h
  rw [List.length_cons, List.range'_succ]
  unfold wpOpsS
  rw [h0]
  simp only [Region.wanted, hg, if_true]
  have hw := zeW hst K a w hin hs (fun a' w' => wpOpsS P ops Q (List.range' (i + 1) l.length) a' cs w') (fun e a' w' => Q e a' cs w')
   (fun K' a' w' s' h1 h2 h3 => znO ops l (i + 1) s' K' a' w' (fun j => by have := ho (j + 1); simpa [Nat.add_assoc, Nat.add_comm 1 j] using this) h3 h1 h2 hQ hP) hP
  unfold Oper.wp at hw
  split
  ·rename_i w' hr
   rw [hr] at hw
   exact hw.elim
  ·exact hw
/-- What recover hands out, and how the frame below goes on. -/
def zj7 : FrameMode → Value × FrameMode
 | .panicking ({ v, recovered := false, goexit := false } :: older) => (v, .panicking ({ v, recovered := true } :: older))
 | u => (.nilIface, u)
def zq5 (Γ : Ctx) (post : FrameMode → List (Nat × Ob) → Nat → Prop) (u' : FrameMode) (e : Exit) (s : St) : Prop := (e = .normal ∨ e = .ret) ∧ ∃ s', Wk Γ s s' ∧ Γ.n0 ≤ s'.next ∧ post u' s'.obs s'.next
theorem RetDf.of_body {P g fn caps obs nx u post id x type pos after l rest} (hf : P.funcs[g]? = some fn)
  (hb : fn.body = some (.seq (.region id ({ dst := some x, op := .call { callee := .builtin .recover, args := #[], argTypes := #[] }, type := type, pos := pos, after := after, guard := none } :: l : List Oper).toArray false) rest))
  (hn : caps.length ≤ fn.ntmps) (hx : x < fn.ntmps) (hres : fn.results = #[])
  (h : ∀ Γ : Ctx, Γ.n0 = nx → HS P Γ l ((entry caps fn.ntmps obs nx).put (some x) (.u (.oth (zj7 u).1))) fun s' => V P Γ rest s' (zan P Γ (zq5 Γ post (zj7 u).2) .done)) : RetDf P g caps obs nx u post := by
 intro k own w vs hsat hhdr hfresh hrep
 have hsz : vs.size = caps.length := hrep.1
 let Γ : Ctx := .of own k nx w
 have hin : In Γ k w := ⟨.refl _, hhdr, fun b o v e => .inl e, hfresh, rfl, rfl, rfl, Nat.le_refl _, fun _ _ => rfl⟩
 have hs : Sim k Γ.own (entry caps fn.ntmps obs nx) { tmps := vs ++ Array.replicate (fn.ntmps - vs.size) undef, defers := [] } w := by
  refine ⟨hsat, rfl, ?_, fun y d hy => ?_, hhdr⟩
  ·simp [entry, hsz]; omega
  ·simp only [entry, zel, Nat.zero_le, if_true, Nat.sub_zero] at hy
   have hlt := (List.getElem?_eq_some_iff.1 hy).1
   refine ⟨by simp [entry]; omega, ?_⟩
   have := hrep.2 y d hy
   have e : (vs ++ Array.replicate (fn.ntmps - vs.size) undef).getD y undef = vs.getD y undef := by
    simp [Array.getElem?_append, show y < vs.size by omega]
   rw [e]
   exact this
 refine callsD_of_wpS hf hb fun c0 cs hm => wpS_seq (wpS_region ?_)
 have hsize : ({ dst := some x, op := .call { callee := .builtin .recover, args := #[], argTypes := #[] }, type := type, pos := pos, after := after, guard := none } :: l : List Oper).toArray.size = l.length + 1 := by simp
 rw [hsize, List.range_eq_range', List.range'_succ]
 generalize hops : ({ dst := some x, op := .call { callee := .builtin .recover, args := #[], argTypes := #[] }, type := type, pos := pos, after := after, guard := none } :: l : List Oper).toArray = ops
 have h0 : ops[0]? = some { dst := some x, op := .call { callee := .builtin .recover, args := #[], argTypes := #[] }, type := type, pos := pos, after := after, guard := none } := by rw [← hops]; simp
 unfold wpOpsS
 rw [h0]
 have hrun : ∀ ρ : Operand → Value, (execOp ρ { dst := some x, op := .call { callee := .builtin .recover, args := #[], argTypes := #[] }, type := type, pos := pos, after := after, guard := none }).run P w = .ok .recover w := fun ρ => by
  simp [execOp, resolve, invoke, builtin]
 simp only [Region.wanted, if_true, hrun]
 have hrec : recoverD (c0 :: cs) = some ((zj7 u).1, { c0 with mode := (zj7 u).2 } :: cs) ∨ (recoverD (c0 :: cs) = none ∧ (zj7 u).1 = .nilIface ∧ { c0 with mode := (zj7 u).2 } = c0) := by
  subst hm
  have same : ∀ m, c0.mode = m → ({ c0 with mode := m } : Frame) = c0 := fun m h => by rw [← h]
  cases hmo : c0.mode with
  | run => exact .inr ⟨by simp [recoverD, hmo], rfl, same _ hmo⟩
  | returning => exact .inr ⟨by simp [recoverD, hmo], rfl, same _ hmo⟩
  | panicking ch =>
   cases ch with
   | nil => exact .inr ⟨by simp [recoverD, hmo], rfl, same _ hmo⟩
   | cons e older =>
    obtain ⟨v, r, g⟩ := e
    cases r <;> cases g
    ·exact .inl (by simp [recoverD, hmo, zj7])
    ·exact .inr ⟨by simp [recoverD, hmo], rfl, same _ hmo⟩
    ·exact .inr ⟨by simp [recoverD, hmo], rfl, same _ hmo⟩
    ·exact .inr ⟨by simp [recoverD, hmo], rfl, same _ hmo⟩
 have main : wpOpsS P ops (Exit.thenS (rest.wpS P (bodyPostS P fn c0 cs fun e u' w' => ∃ v obs' nx' k', e = .returned v ∧ In (.of own k nx w) k' w' ∧ Sat k' own obs' w' ∧ (∀ i, nx' ≤ i → k'.hdr i = none) ∧ nx ≤ nx' ∧ post u' obs' nx'))
   (bodyPostS P fn c0 cs fun e u' w' => ∃ v obs' nx' k', e = .returned v ∧ In (.of own k nx w) k' w' ∧ Sat k' own obs' w' ∧ (∀ i, nx' ≤ i → k'.hdr i = none) ∧ nx ≤ nx' ∧ post u' obs' nx')) (List.range' (0 + 1) l.length)
   (Act.put { tmps := vs ++ Array.replicate (fn.ntmps - vs.size) undef, defers := [] } (some x) (zj7 u).1) ({ c0 with mode := (zj7 u).2 } :: cs) w := by
  refine znO ops l (0 + 1) _ k _ w (fun j => by rw [← hops]; simp [Nat.add_comm 1 j]) (h Γ rfl) hin (hs.put (by simpa [zaI, entry] using hx) (.u _ _ (.oth _))) (fun K' a' w' s' h1 h2 h3 => ?_) (fun ch K' a' w' s' _ _ h3 => h3.elim)
  refine wpS_of_wp (wp_mono (h3 K' a' w' h1 h2) ?_)
  rintro e a2 w2 (⟨K2, s2, g1, g2, g3⟩ | g3)
  ·have hd2 : a2.defers = [] := g2.defers
   have fin : zq5 Γ post (zj7 u).2 e s2 → a2.defers = [] ∧ ∃ u', ({ c0 with mode := (zj7 u).2 } :: cs : List Frame) = { c0 with mode := u' } :: cs ∧ ∃ v, (results fn a2.tmps).run P w2 = .ok v w2 ∧
     ∃ v' obs' nx' k', Ending.returned v = .returned v' ∧ In (.of own k nx w) k' w2 ∧ Sat k' own obs' w2 ∧ (∀ i, nx' ≤ i → k'.hdr i = none) ∧ nx ≤ nx' ∧ post u' obs' nx' := fun ⟨_, s3, hw, hnx, hp⟩ => by
    obtain ⟨K3, q1, q2⟩ := hw K2 a2 w2 g1 g2
    exact ⟨hd2, _, rfl, .tuple #[], by simp [results, hres], _, s3.obs, s3.next, K3, rfl, q1, q2.sat, q2.hdr, hnx, hp⟩
   cases e with
   | normal => exact fin g3
   | ret => exact fin g3
   | panic ch => exact g3.elim
   | exit i => rcases g3.1 with h | h <;> cases h
   | goto i => rcases g3.1 with h | h <;> cases h
   | outgrown => rcases g3.1 with h | h <;> cases h
  ·exact g3.2.elim
 rcases hrec with hr | ⟨hr, h1, h2⟩
 ·rw [hr]
  exact main
 ·rw [hr]
  rw [h1, h2] at main
  exact main
end Go.VL
namespace Go.VL
open Go
/-- A call that is sure to panic, wherever its operands and objects are az here. -/
def zoy (P : Program) (Γ : Ctx) (s : St) (op : Op) : Prop :=
 ∀ s' : St, s'.n = s.n → (∀ y, getK s'.obs y = getK s.obs y) → (∀ x ∈ op.operands, opd s' x = opd s x) → s.next ≤ s'.next → ∀ o : Oper, o.op = op → o.guard = none → zaI o.dst s' → EffP P Γ o s' fun _ => False
/-- A call that changes the objects it is handed, and makes none. -/
def zoG (P : Program) (N : Nat) (s : St) (op : Op) (d : D) (W : Wr) (R : List Nat) : Prop :=
 ∃ fop args f caps, ∃ (O O' : List (Nat × Ob)) (L : List Nat), zbI op = some (fop, args) ∧ zaA (opd s fop) = some (f, caps) ∧ zal P f = true ∧ R = O.map (·.1) ∧ W = (O'.filter fun p => L.contains p.1).map (fun p => (p.1, some p.2)) ∧ O'.map (·.1) = O.map (·.1) ∧
  (∀ y, L.contains y = false → getK O' y = getK O y) ∧ (∀ p ∈ O, getK s.obs p.1 = some p.2) ∧ (O.map (·.1)).Nodup ∧ (d.under N = true ∧ ∀ p ∈ O', p.2.under N = true) ∧
  ∀ nx, s.next ≤ nx → RetX P f (args.map (opd s) ++ caps) O nx fun r o n => r = .val d ∧ (∀ y, getK o y = getK O' y) ∧ n = nx
/-- A call that changes nothing of what it is handed, and makes one object. -/
def zqk (P : Program) (N : Nat) (s : St) (op : Op) (d : D) (W : Wr) (cr : Option Nat) (R : List Nat) : Prop :=
 ∃ fop args f caps, ∃ (O : List (Nat × Ob)) (e : ERes) (nb : Ob) (x0 : Nat), zbI op = some (fop, args) ∧ zaA (opd s fop) = some (f, caps) ∧ zal P f = true ∧ R = O.map (·.1) ∧ (e.U = [] ∧ e.nw = some nb ∧ nb.under N = true) ∧
  (cr = some x0 ∧ W = (x0, some nb) :: e.U ∧ d = mkD e.how x0) ∧ (∀ p ∈ O, getK s.obs p.1 = some p.2) ∧
  ∀ nx, s.next ≤ nx → RetX P f (args.map (opd s) ++ caps) O nx fun r o n => r = .val (mkD e.how nx) ∧ (∀ y, getK o y = getK ((nx, nb) :: O) y) ∧ n = nx + 1
def zoA (P : Program) (N : Nat) (s : St) (op : Op) (dst : Option Tmp) (d : D) (W : Wr) (cr : Option Nat) (R : List Nat) : Prop :=
 Op1 P s op dst d W cr R ∨ (zoG P N s op d W R ∧ cr = none) ∨ zqk P N s op d W cr R
def zph (P : Program) (N : Nat) (all : Array Oper) (s : St) (o : Oper) (d : D) (W : Wr) (cr : Option Nat) (R : List Nat) : Prop :=
 match o.guard with
 | none => zoA P N s o.op o.dst d W cr R
 | some (j, want) => ∃ t, za8 all j = some t ∧ ((∃ b, getK s.env t = some (.u (.bool b)) ∧
  if b = want then zoA P N s o.op o.dst d W cr R else d = .un ∧ W = [] ∧ cr = none) ∨ (getK s.env t = some .un ∧ d = .un ∧ W = [] ∧ cr = none))
theorem zbT {α : Type} (l : List (Nat × α)) (c : List Nat) (y : Nat) : getK (l.filter fun p => !c.contains p.1) y = if c.contains y = true then none else getK l y := by
 induction l with
 | nil => simp [getK]
 | cons p l ih =>
  obtain ⟨k, x⟩ := p
  rw [List.filter_cons]
  by_cases hk : c.contains k = true
  ·rw [if_neg (by simpa using hk), ih, zaa]
   by_cases hy : y = k
   ·subst hy; rw [if_pos hk, if_pos hk]
   ·rw [if_neg hy]
  ·rw [if_pos (by simpa using hk), zaa, zaa, ih]
   by_cases hy : y = k
   ·subst hy; rw [if_pos rfl, if_pos rfl, if_neg hk]
   ·rw [if_neg hy, if_neg hy]
theorem zib {α : Type} (l : List (Nat × α)) (c : List Nat) (y : Nat) : getK (l.filter fun p => c.contains p.1) y = if c.contains y = true then getK l y else none := by
 induction l with
 | nil => simp [getK]
 | cons p l ih =>
  obtain ⟨k, x⟩ := p
  rw [List.filter_cons]
  by_cases hk : c.contains k = true
  ·rw [if_pos (by exact hk), zaa, zaa, ih]
   by_cases hy : y = k
   ·subst hy; rw [if_pos rfl, if_pos rfl, if_pos hk]
   ·rw [if_neg hy, if_neg hy]
  ·rw [if_neg (by exact hk), ih, zaa]
   by_cases hy : y = k
   ·subst hy; rw [if_neg hk, if_neg hk]
   ·rw [if_neg hy]
theorem zdP {α : Type} {l : List (Nat × α)} {y : Nat} {x : α} (h : getK l y = some x) : (y, x) ∈ l := by
 induction l with
 | nil => cases h
 | cons p l ih =>
  obtain ⟨k, d⟩ := p
  rw [zaa] at h
  by_cases hyk : y = k
  ·rw [if_pos hyk] at h; cases h; subst hyk; simp
  ·rw [if_neg hyk] at h; exact List.mem_cons_of_mem _ (ih h)
theorem zca {α : Type} {l : List (Nat × α)} {y : Nat} (h : y ∈ l.map (·.1)) : ∃ x, getK l y = some x := by
 induction l with
 | nil => cases h
 | cons p l ih =>
  obtain ⟨k, d⟩ := p
  rw [zaa]
  by_cases hyk : y = k
  ·exact ⟨d, by rw [if_pos hyk]⟩
  ·rw [if_neg hyk]
   simp only [List.map_cons, List.mem_cons] at h
   exact ih (h.resolve_left hyk)
theorem zg7 (O : List (Nat × Ob)) (y : Nat) : getK (O.map fun p => (p.1, some p.2) : Wr) y = (getK O y).map some := by
 induction O with
 | nil => rfl
 | cons p l ih =>
  obtain ⟨k, d⟩ := p
  rw [List.map_cons, zaa, zaa, ih]
  split <;> rfl
theorem zcd {ρ : Nat → Nat} {N M : Nat} (hρ : ∀ y, y < N → ρ y = y) (hNM : N ≤ M) : ∀ {d : D}, d.under N = true → Good ρ M d
 | .u x, _ => ⟨by simp [D.ren], by simp [D.under]⟩
 | .any, _ => ⟨by simp [D.ren], by simp [D.under]⟩
 | .ptr i off, h => by simp [D.under] at h; exact ⟨by simp [D.ren, hρ i h], by simp [D.under]; omega⟩
 | .vec i len, h => by simp [D.under] at h; exact ⟨by simp [D.ren, hρ i h], by simp [D.under]; omega⟩
 | .mp i, h => by simp [D.under] at h; exact ⟨by simp [D.ren, hρ i h], by simp [D.under]; omega⟩
 | .elt i sz idx off, h => by simp [D.under] at h; exact ⟨by simp [D.ren, hρ i h], by simp [D.under]; omega⟩
 | .fnc f caps, h => by
  have hc : ∀ c ∈ caps, Good ρ M c := fun c hc => zcd hρ hNM (by rw [D.under] at h; simp only [List.all_map, List.all_eq_true] at h; exact h c hc)
  refine ⟨by rw [D.ren]; congr 1; exact (List.map_congr_left fun c hc' => (hc c hc').1).trans (List.map_id _), ?_⟩
  rw [D.under]
  simp only [List.all_map, List.all_eq_true]
  exact fun c hc' => (hc c hc').2
 | .bnd f caps, h => by
  have hc : ∀ c ∈ caps, Good ρ M c := fun c hc => zcd hρ hNM (by rw [D.under] at h; simp only [List.all_map, List.all_eq_true] at h; exact h c hc)
  refine ⟨by rw [D.ren]; congr 1; exact (List.map_congr_left fun c hc' => (hc c hc').1).trans (List.map_id _), ?_⟩
  rw [D.under]
  simp only [List.all_map, List.all_eq_true]
  exact fun c hc' => (hc c hc').2
 | .agg caps, h => by
  have hc : ∀ c ∈ caps, Good ρ M c := fun c hc => zcd hρ hNM (by rw [D.under] at h; simp only [List.all_map, List.all_eq_true] at h; exact h c hc)
  refine ⟨by rw [D.ren]; congr 1; exact (List.map_congr_left fun c hc' => (hc c hc').1).trans (List.map_id _), ?_⟩
  rw [D.under]
  simp only [List.all_map, List.all_eq_true]
  exact fun c hc' => (hc c hc').2
 | .tup caps, h => by
  have hc : ∀ c ∈ caps, Good ρ M c := fun c hc => zcd hρ hNM (by rw [D.under] at h; simp only [List.all_map, List.all_eq_true] at h; exact h c hc)
  refine ⟨by rw [D.ren]; congr 1; exact (List.map_congr_left fun c hc' => (hc c hc').1).trans (List.map_id _), ?_⟩
  rw [D.under]
  simp only [List.all_map, List.all_eq_true]
  exact fun c hc' => (hc c hc').2
theorem zey {ρ : Nat → Nat} {N M : Nat} (hρ : ∀ y, y < N → ρ y = y) (hNM : N ≤ M) {ob : Ob} (h : ob.under N = true) : ob.all (Good ρ M) := by
 cases ob with
 | it => trivial
 | nw => trivial
 | sit => trivial
 | box cs => exact fun c hc => zcd hρ hNM ((List.all_eq_true.1 h) c hc)
 | vec e sz rows => exact fun r hr c hc => zcd hρ hNM ((List.all_eq_true.1 ((List.all_eq_true.1 h) r hr)) c hc)
 | map kk ag es => exact fun p hp c hc => zcd hρ hNM ((List.all_eq_true.1 ((List.all_eq_true.1 h) p hp)) c hc)
/-- What comes before stands before. -/
theorem zmm {ops : List Oper} (hord : zlo ops = true) : ∀ {i j : Nat} {y : Oper}, ops[j]? = some y → zeq ops ops.length i j = true → i < j := by
 have key : ∀ (n i j : Nat) (y : Oper), ops[j]? = some y → zeq ops n i j = true → i < j := by
  intro n
  induction n with
  | zero => intro i j y hj h; simp [zeq] at h
  | succ n ih =>
   intro i j y hj h
   simp only [zeq, hj] at h
   rw [List.any_eq_true] at h
   obtain ⟨p, hp, h⟩ := h
   have hlt := (zfo hord hj).1 p hp
   simp only [Bool.or_eq_true, beq_iff_eq] at h
   rcases h with rfl | h
   ·exact hlt
   ·have hpl : p < ops.length := by have := (List.getElem?_eq_some_iff.1 hj).1; omega
    have := ih i p _ (List.getElem?_eq_getElem hpl) h
    omega
 exact fun {i j y} hj h => key _ i j y hj h
theorem EffP.guard {P Γ s k} {dst op type pos after guard} (h : EffP P Γ { dst, op, type, pos, after, guard := none } s k) : EffP P Γ { dst, op, type, pos, after, guard } s k := h
/-- All orders of operations, from a state on. -/
def VA (P : Program) (Γ : Ctx) (ops : List Oper) (s : St) (R : Exit → St → Prop) : Prop :=
 ∀ K a w, In Γ K w → Sim K Γ.own s a w → wpAny P .any ops.toArray (VPost Γ R) ops.toArray.size (Array.replicate ops.toArray.size false) a { w with drawn := w.drawn + 1 }
set_option maxHeartbeats 4000000 in
theorem znC {P Γ} {R0 : Exit → St → Prop} {ops : List Oper} {T : Nat → D} {W : Nat → Wr} {cr : Nat → Option Nat} {R : Nat → List Nat} {kd : Nat → Nat} {s : St} {M : Nat}
  (hord : zlo ops = true) (hn0 : Γ.n0 ≤ s.next) (hM : s.next ≤ M)
  (hcr : ∀ i x, cr i = some x → s.next ≤ x ∧ x < M) (hcr1 : ∀ i j x, cr i = some x → cr j = some x → i = j)
  (hpair : ∀ i j, i < j → j < ops.length → zeq ops ops.length i j = false → (∀ y ∈ keys (W i), y ∉ R j ∧ y ∉ keys (W j)) ∧ ∀ y ∈ keys (W j), y ∉ R i)
  (hkd : ∀ i, kd i ≠ 0 → W i = [] ∧ cr i = none) (hstop : ∀ p i, kd p = 1 → i < ops.length → W i ≠ [] → zeq ops ops.length i p = true ∨ zeq ops ops.length p i = true)
  (hval : ∀ i o, ops[i]? = some o → zaI o.dst s ∧ if kd i = 2 then ∃ p, kd p = 1 ∧ p < ops.length ∧ zeq ops ops.length p i = true else if kd i = 1 then o.guard = none ∧ zoy P Γ (stW ops T W s M fun j => decide (j < i)) o.op else
    zph P s.next ops.toArray (stW ops T W s M fun j => decide (j < i)) o (T i) (W i) (cr i) (R i))
  (hfin : (∀ i, i < ops.length → kd i ≠ 1) → ∃ s', (stW ops T W s M fun _ => true).Eqo s' ∧ R0 .normal s') : VA P Γ ops s R0 := by
 intro K a w hin hs
 have hin0 : In Γ K { w with drawn := w.drawn + 1 } := ⟨hin.le, hin.none0, hin.memNew, hin.fresh, hin.os, hin.tape, hin.output, hin.size, hin.block⟩
 have hs0 : Sim K Γ.own s a { w with drawn := w.drawn + 1 } := ⟨⟨hs.sat.mem, fun i ob hi => by
   obtain ⟨h, h1, h2, h3⟩ := hs.sat.ob i ob hi
   exact ⟨h, h1, h2, h3.keep (.refl _) fun b e => rfl⟩, hs.sat.apart⟩, hs.defers, hs.size, hs.env, hs.hdr⟩
 generalize ({ w with drawn := w.drawn + 1 } : World) = w0 at hin0 hs0
 have key : ∀ (fuel : Nat) (listed : Array Bool) (K : Kr) (a : Act) (w : World), listed.size = ops.length → (listed.toList.filter (! ·)).length ≤ fuel →
   (∀ j y, ops[j]? = some y → listed.getD j false = true → ∀ p ∈ zda y, listed.getD p false = true) → In Γ K w → Sim K Γ.own (stW ops T W s M fun j => listed.getD j false) a w →
   (∀ j x, j < ops.length → listed.getD j false = false → cr j = some x → K.hdr x = none) → (∀ p, kd p = 1 → p < ops.length → listed.getD p false = false) →
   wpAny P .any ops.toArray (VPost Γ R0) fuel listed a w := by
  have allDone : ∀ (listed : Array Bool) (K : Kr) (a : Act) (w : World), (∀ p, kd p = 1 → p < ops.length → listed.getD p false = false) → (∀ j, j < ops.length → listed.getD j false = true) → In Γ K w → Sim K Γ.own (stW ops T W s M fun j => listed.getD j false) a w →
    ∃ K' s', In Γ K' w ∧ Sim K' Γ.own s' a w ∧ R0 .normal s' := fun listed K a w hsp hall hin hs => by
   obtain ⟨s', he, hfin⟩ := hfin fun i hi hk => by have h1 := hsp i hk hi; rw [hall i hi] at h1; cases h1
   refine ⟨K, _, hin, Sim.eqo (hs.eqo ?_) he, hfin⟩
   refine ⟨rfl, fun x => ?_, rfl, fun x => ?_⟩
   ·simp only [stW, zaO]
    rw [zcu W _ (fun _ => true) x ops.length fun j hj _ => hall j hj]
   ·exact zcN T _ _ x ops 0 s.env s.env rfl fun j o hj _ => by
     have hl := (List.getElem?_eq_some_iff.1 hj).1
     simp only [Nat.zero_add]
     exact hall j hl
  have least : ∀ (listed : Array Bool), listed.size = ops.length → ∀ i, i < ops.length → listed.getD i false = false → ∃ i0, i0 ∈ Region.ready .any ops.toArray listed := fun listed hsz i hi hu => by
   induction i using Nat.strongRecOn with
   | _ i ih =>
    have ho : ops[i]? = some ops[i] := List.getElem?_eq_getElem hi
    by_cases hp : ∀ p ∈ zda ops[i], listed.getD p false = true
    ·refine ⟨i, mem_ready.2 ⟨?_, ops[i], by simp, fun e he hb => hp e.on ?_⟩⟩
     ·have hi' : i < listed.size := by omega
      simp [hi'] at hu ⊢
      exact hu
     ·simp only [zda, List.mem_map, List.mem_filter]
      exact ⟨e, ⟨by simpa using he, hb⟩, rfl⟩
    ·simp only [Classical.not_forall] at hp
     obtain ⟨p, hpm, hpu⟩ := hp
     have hlt := (zfo hord ho).1 p hpm
     exact ih p hlt (by omega) (by simpa using hpu)
  intro fuel
  induction fuel with
  | zero =>
   intro listed K a w hsz hcnt hcl hin hs _ hsp
   have hall : ∀ j, j < ops.length → listed.getD j false = true := fun j hj => by
    have hj' : j < listed.size := by omega
    have h0 : (listed.toList.filter (! ·)) = [] := List.eq_nil_of_length_eq_zero (by omega)
    have := (List.filter_eq_nil_iff.1 h0) listed[j] (by simp)
    simp only [Bool.not_eq_true', Bool.not_eq_false] at this
    simp [hj', this]
   refine ⟨?_, .inl (allDone listed K a w hsp hall hin hs)⟩
   refine List.eq_nil_iff_forall_not_mem.2 fun i hi => ?_
   obtain ⟨h1, o, ho, _⟩ := mem_ready.1 hi
   have hl : i < ops.length := by
    have := (Array.getElem?_eq_some_iff.1 ho).1
    simpa using this
   have := hall i hl
   have hi' : i < listed.size := by omega
   simp [hi'] at h1 this
   rw [h1] at this
   cases this
  | succ fuel ih =>
   intro listed K a w hsz hcnt hcl hin hs hfr hsp
   refine ⟨fun hnil => .inl (allDone listed K a w hsp (fun j hj => ?_) hin hs), fun i hi => ?_⟩
   ·cases hu : listed.getD j false with
    | true => rfl
    | false =>
     obtain ⟨i0, h0⟩ := least listed hsz j hj hu
     rw [hnil] at h0
     cases h0
   ·obtain ⟨hun, o, ho, hall⟩ := mem_ready.1 hi
    have ho' : ops[i]? = some o := by simpa using ho
    have hil := (List.getElem?_eq_some_iff.1 ho').1
    have hil' : i < listed.size := by omega
    have hunf : listed.getD i false = false := by simp [hil'] at hun ⊢; exact hun
    have hpred : ∀ p ∈ zda o, listed.getD p false = true := fun p hp => by
     simp only [zda, List.mem_map, List.mem_filter] at hp
     obtain ⟨e, ⟨he, hb⟩, rfl⟩ := hp
     exact hall e (by simpa using he) hb
    obtain ⟨hpo, hv⟩ := hval i o ho'
    have bef1 : ∀ j, zeq ops ops.length j i = true → listed.getD j false = true := fun j hb => ze3 hcl _ j i o ho' hpred hb
    have bef2 : ∀ j x, ops[j]? = some x → zeq ops ops.length i j = true → listed.getD j false = false := fun j x hj hb => by
     cases hu : listed.getD j false with
     | false => rfl
     | true =>
      have := ze3 hcl _ i j x hj (hcl j x hj hu) hb
      rw [hunf] at this
      cases this
    have before : ∀ j x, ops[j]? = some x → j < i → zfK ops.toArray x o = true ∨ zfK ops.toArray o x = true → listed.getD j false = true := fun j x hj hlt hmm =>
     bef1 j ((zfo hord ho').2.2 j x hlt hj hmm)
    have behind : ∀ j x, ops[j]? = some x → i < j → zfK ops.toArray x o = true ∨ zfK ops.toArray o x = true → listed.getD j false = false := fun j x hj hlt hmm =>
     bef2 j x hj ((zfo hord hj).2.2 i o hlt ho' hmm.symm)
    have agree : ∀ t, t ∈ o.looksAt ops.toArray → getK (zeE T (fun j => listed.getD j false) ops 0 s.env) t = getK (zeE T (fun j => decide (j < i)) ops 0 s.env) t := fun t ht => by
     refine zcN T _ _ t ops 0 s.env s.env rfl fun j x hj hx => ?_
     simp only [Nat.zero_add]
     have hmm : zfK ops.toArray x o = true := by simp [zfK, hx, ht]
     rcases Nat.lt_trichotomy j i with h | h | h
     ·rw [before j x hj h (.inl hmm)]; simp [h]
     ·subst h; rw [hunf]; simp
     ·rw [behind j x hj h (.inl hmm)]; simp; omega
    have hopd : ∀ x ∈ o.op.operands, opd (stW ops T W s M fun j => decide (j < i)) x = opd (stW ops T W s M fun j => listed.getD j false) x := fun x hx => by
     cases x with
     | tmp t =>
      simp only [opd, St.at, stW]
      rw [agree t (List.mem_append_left _ (List.mem_filterMap.2 ⟨.tmp t, by simpa using hx, rfl⟩))]
     | _ => rfl
    have hloc : ∀ y ∈ R i, getK (stW ops T W s M fun j => decide (j < i)).obs y = getK (stW ops T W s M fun j => listed.getD j false).obs y := fun y hy => by
     simp only [stW, zaO]
     rw [zcu W (fun j => decide (j < i)) (fun j => listed.getD j false) y ops.length fun j hj hk => ?_]
     rcases Nat.lt_trichotomy j i with h | h | h
     ·have hb : zeq ops ops.length j i = true := by
       cases hb : zeq ops ops.length j i with
       | true => rfl
       | false => exact absurd hy (((hpair j i h hil hb).1 y hk).1)
      rw [bef1 j hb]
      simp [h]
     ·subst h; rw [hunf]; simp
     ·have hb : zeq ops ops.length i j = true := by
       cases hb : zeq ops ops.length i j with
       | true => rfl
       | false => exact absurd hy ((hpair i j h hj hb).2 y hk)
      rw [bef2 j _ (List.getElem?_eq_getElem hj) hb]
      simp; omega
    have hlast : ∀ y ∈ keys (W i), ∀ j, j < ops.length → i < j → y ∈ keys (W j) → listed.getD j false = false := fun y hy j hj hlt hk => by
     have hb : zeq ops ops.length i j = true := by
      cases hb : zeq ops ops.length i j with
      | true => rfl
      | false => exact absurd hk ((hpair i j hlt hj hb).1 y hy).2
     exact bef2 j _ (List.getElem?_eq_getElem hj) hb
    have hS : (fun j => (listed.setIfInBounds i true).getD j false) = fun j => listed.getD j false || j == i := funext fun j => by
     by_cases hji : j = i
     ·subst hji; simp [hil']
     ·simp [Array.getElem?_setIfInBounds_ne (Ne.symm hji), hji]
    have henv : ∀ (x : Nat), o.dst = some x → getK (zeE T (fun j => listed.getD j false || j == i) ops 0 s.env) x = some (T i) := fun x hdx =>
     zjO T _ i x ops 0 s.env i o ho' (by omega) hdx fun j o' hj hlt hd' => by
      rw [Nat.zero_add]
      exact behind j o' hj hlt (.inl (by simp [zfK, hd', hdx]))
    have henv' : ∀ (x : Nat), o.dst ≠ some x → getK (zeE T (fun j => listed.getD j false || j == i) ops 0 s.env) x = getK (zeE T (fun j => listed.getD j false) ops 0 s.env) x := fun x hdx =>
     zcN T _ (fun j => listed.getD j false) x ops 0 s.env s.env rfl fun j o' hj hd' => by
      simp only [Nat.zero_add]
      have : j ≠ i := fun e => by subst e; rw [ho'] at hj; cases hj; exact hdx hd'
      simp [this]
    by_cases hk2 : kd i = 2
    ·rw [if_pos hk2] at hv
     obtain ⟨p, hp1, hp2, hp3⟩ := hv
     have := bef1 p hp3
     rw [hsp p hp1 hp2] at this
     cases this
    rw [if_neg hk2] at hv
    by_cases hk1 : kd i = 1
    ·rw [if_pos hk1] at hv
     obtain ⟨hg, hst⟩ := hv
     unfold wpOp
     rw [ho]
     simp only [Region.wanted, hg, if_true]
     refine .inl (hst (stW ops T W s M fun j => listed.getD j false) rfl (fun y => ?_) (fun x hx => (hopd x hx).symm) (Nat.le_refl _) o rfl hg hpo K a w hin hs _ _ (fun _ _ _ _ _ _ h => h.elim) fun ch K' a' w' s' h1 h2 h3 => .inl ⟨K', s', h1, h2, h3⟩)
     simp only [stW, zaO]
     rw [zcu W (fun j => listed.getD j false) (fun j => decide (j < i)) y ops.length fun j hj hk => ?_]
     have hne : W j ≠ [] := fun e => by rw [e] at hk; cases hk
     rcases hstop i j hk1 hj hne with hb | hb
     ·have h1 := bef1 j hb
      have hji : j < i := by
       rcases Nat.lt_trichotomy j i with h | h | h
       ·exact h
       ·subst h; rw [hunf] at h1; cases h1
       ·have := zmm hord ho' hb; omega
      rw [h1]; simp [hji]
     ·have h1 := bef2 j _ (List.getElem?_eq_getElem hj) hb
      have hji : ¬ j < i := by have := zmm hord (List.getElem?_eq_getElem hj) hb; omega
      rw [h1]; simp [hji]
    rw [if_neg hk1] at hv
    have go : ∀ K' a' w', In Γ K' w' → Sim K' Γ.own (stW ops T W s M fun j => listed.getD j false || j == i) a' w' →
      (∀ j x, j < ops.length → (listed.getD j false || j == i) = false → cr j = some x → K'.hdr x = none) →
      wpAny P .any ops.toArray (VPost Γ R0) fuel (listed.setIfInBounds i true) a' w' := fun K' a' w' h1 h2 h3 => by
     have hS' : ∀ j, (listed.setIfInBounds i true).getD j false = (listed.getD j false || j == i) := fun j => congrFun hS j
     refine ih (listed.setIfInBounds i true) K' a' w' (by simp [hsz]) ?_ (fun j y hj hSj p hp => ?_) h1 (by rw [hS]; exact h2) (fun j x hj hu => h3 j x hj (by rw [← hS']; exact hu)) (fun p hp1 hp2 => by
      rw [hS', hsp p hp1 hp2]
      have : p ≠ i := fun e => hk1 (e ▸ hp1)
      simp [this])
     ·have cnt : ∀ (l : List Bool) (n : Nat), l[n]? = some false → ((l.set n true).filter (! ·)).length + 1 = (l.filter (! ·)).length := by
       intro l
       induction l with
       | nil => intro n h; simp at h
       | cons b l ih =>
               intro n h
               cases n with
               | zero => simp at h; subst h; simp
               | succ n =>
                have := ih n (by simpa using h)
                cases b <;> simp at this ⊢ <;> omega
      have := cnt listed.toList i (by
       rw [Array.getElem?_toList, Array.getElem?_eq_getElem hil']
       simp [hil'] at hunf
       rw [hunf])
      rw [Array.toList_setIfInBounds]
      omega
     ·rw [hS'] at hSj ⊢
      simp only [Bool.or_eq_true, beq_iff_eq] at hSj ⊢
      rcases hSj with hSj | rfl
      ·exact .inl (hcl j y hj hSj p hp)
      ·rw [ho'] at hj
       cases hj
       exact .inl (hpred p hp)
    have next : W i = [] → ∀ K' v w', In Γ K' w' → K.le K' → K'.hdr = K.hdr → Sat K' Γ.own (stW ops T W s M fun j => listed.getD j false).obs w' → Rep K' (T i) v →
      wpAny P .any ops.toArray (VPost Γ R0) fuel (listed.setIfInBounds i true) (a.put o.dst v) w' := fun hW K' v w' h1 h2 h3 h4 h5 => by
     refine go K' _ w' h1 ?_ fun j x hj hu hc => by
      rw [h3]
      simp only [Bool.or_eq_false_iff] at hu
      exact hfr j x hj hu.1 hc
     have hdef : (a.put o.dst v).defers = Γ.own.dfr := by cases o.dst <;> exact hs.defers
     have hsize : (a.put o.dst v).tmps.size = s.n := by
      have hsz2 : a.tmps.size = s.n := hs.size
      cases o.dst <;> simp [Act.put, hsz2]
     refine ⟨h4.eqo fun y => ?_, hdef, hsize, fun x d hx => ?_, fun j hj => by rw [h3]; exact hs.hdr j hj⟩
     ·simp only [stW, zaO]
      rw [zcu W (fun j => listed.getD j false) (fun j => listed.getD j false || j == i) y ops.length fun j hj hk => ?_]
      by_cases hji : j = i
      ·subst hji; rw [hW] at hk; cases hk
      ·simp [hji]
     ·simp only [stW] at hx
      by_cases hdx : o.dst = some x
      ·rw [henv x hdx] at hx
       cases hx
       have hlt : x < s.n := by rw [hdx] at hpo; exact hpo
       refine ⟨hlt, ?_⟩
       have hsz' : a.tmps.size = s.n := hs.size
       rw [hdx]
       simpa [Act.put, hsz', hlt] using h5
      ·rw [henv' x hdx] at hx
       obtain ⟨g1, g2⟩ := hs.env x d hx
       refine ⟨g1, ?_⟩
       have e : (a.put o.dst v).tmps.getD x undef = a.tmps.getD x undef := by
               cases hd : o.dst with
               | none => rfl
               | some y =>
                have hne : y ≠ x := fun e => hdx (by rw [hd, e])
                simp [Act.put, Array.getElem?_setIfInBounds_ne hne]
       rw [e]
       exact g2.mono h2
    unfold wpOp
    rw [ho]
    simp only
    have two : (Region.wanted o (yielded ops.toArray a.tmps) = true ∧ zoA P s.next (stW ops T W s M fun j => decide (j < i)) o.op o.dst (T i) (W i) (cr i) (R i)) ∨ (Region.wanted o (yielded ops.toArray a.tmps) = false ∧ T i = .un ∧ W i = []) := by
     unfold zph at hv
     split at hv
     ·rename_i hg
      exact .inl ⟨by simp [Region.wanted, hg], hv⟩
     ·rename_i j want hg
      obtain ⟨t, ht, hv⟩ := hv
      have lift : ∀ dd, getK (stW ops T W s M fun j => decide (j < i)).env t = some dd → getK (stW ops T W s M fun j => listed.getD j false).env t = some dd := fun dd hb => by
       simp only [stW] at hb ⊢
       rw [agree t (by
               refine List.mem_append_right _ ?_
               unfold za8 at ht
               simp only [hg]
               rw [ht]
               simp)]
       exact hb
      rcases hv with ⟨b, hb, hv⟩ | ⟨hb, hv⟩
      ·have hb' := lift _ hb
       obtain ⟨hlt, hr⟩ := hs.getK hb'
       have hbv := zcw hr
       have hyd : yielded ops.toArray a.tmps j = some b := by
               unfold yielded
               unfold za8 at ht
               rw [ht]
               simp only [Option.bind_some]
               have : a.tmps[t]? = some (.bool b) := by
                rw [Array.getElem?_eq_getElem hlt]
                simp [hlt] at hbv
                rw [hbv]
               rw [this]
       by_cases hbw : b = want
       ·rw [if_pos hbw] at hv
        exact .inl ⟨by simp [Region.wanted, hg, hyd, hbw], hv⟩
       ·rw [if_neg hbw] at hv
        exact .inr ⟨by simp [Region.wanted, hg, hyd, hbw], hv.1, hv.2.1⟩
      ·have hb' := lift _ hb
       obtain ⟨hlt, hr⟩ := hs.getK hb'
       have hbv := zcP hr
       have hyd : yielded ops.toArray a.tmps j = none := by
               unfold yielded
               unfold za8 at ht
               rw [ht]
               simp only [Option.bind_some]
               have : a.tmps[t]? = some undef := by
                rw [Array.getElem?_eq_getElem hlt]
                simp [hlt] at hbv
                rw [hbv]
               rw [this]
               try rfl
       exact .inr ⟨by simp [Region.wanted, hg, hyd], hv.1, hv.2.1⟩
    rcases two with ⟨hw, hv⟩ | ⟨hw, hv⟩
    ·rw [if_pos hw]
     let un : Nat → Prop := fun y => ∃ j, j < ops.length ∧ (listed.getD j false || j == i) = false ∧ cr j = some y
     let ρ : Nat → Nat := fun y => open Classical in if cr i = some y then M else if un y then M + 1 + y else y
     have hknown : ∀ y h, K.hdr y = some h → ρ y = y ∧ y < M := fun y h hy => by
      have h1 : cr i ≠ some y := fun e => by rw [hfr i y hil hunf e] at hy; cases hy
      have h2 : ¬ un y := fun ⟨j, hj, hu, hc⟩ => by
       simp only [Bool.or_eq_false_iff] at hu
       rw [hfr j y hj hu.1 hc] at hy
       cases hy
      refine ⟨by simp only [ρ]; rw [if_neg h1, if_neg h2], ?_⟩
      rcases Nat.lt_or_ge y M with h | h
      ·exact h
      ·rw [hs.hdr y h] at hy; cases hy
     have hobs : ∀ y ob, getK (stW ops T W s M fun j => listed.getD j false).obs y = some ob → (ρ y = y ∧ y < M) ∧ ob.all (Good ρ M) := fun y ob hy => by
      have hok := hs.sat.ob y ob hy
      obtain ⟨h, h1, _⟩ := hok
      exact ⟨hknown y h h1, (hs.sat.ob y ob hy).good hknown⟩
     have hρs0 : ∀ y, y < s.next → ρ y = y := fun y hy => by
      have c1 : cr i ≠ some y := fun e => by have := (hcr i y e).1; omega
      have c2 : ¬ un y := fun ⟨j, _, _, hc⟩ => by have := (hcr j y hc).1; omega
      simp only [ρ]
      rw [if_neg c1, if_neg c2]
     have mk : ∀ e' : ERes, (∀ p ∈ e'.U, ∀ ob, p.2 = some ob → ob.all (Good ρ M) ∧ ∃ o, getK (stW ops T W s M fun j => listed.getD j false).obs p.1 = some o) → (∀ ob, e'.nw = some ob → ob.all (Good ρ M)) →
       (match e'.nw with | none => o.dst = none ∧ W i = e'.U ∧ cr i = none | some ob => ∃ x, cr i = some x ∧ W i = (x, some ob) :: e'.U ∧ T i = mkD e'.how x) →
       ∀ K' a' w', In Γ K' w' → Sim K' Γ.own ((stW ops T W s M fun j => listed.getD j false).effS e' o.dst) a' w' → wpAny P .any ops.toArray (VPost Γ R0) fuel (listed.setIfInBounds i true) a' w' := by
      intro e' hgU hgN hcase K' a' w' h1 h2
      have hle : St.Le Γ.n0 ρ ((stW ops T W s M fun j => listed.getD j false).effS e' o.dst) (stW ops T W s M fun j => listed.getD j false || j == i) := by
       have hWi : ∀ y, y ∈ keys (W i) → getK (zeg W (fun j => listed.getD j false || j == i) ops.length) y = getK (W i) y := fun y hy =>
               zgI W _ i y hy ops.length hil fun j hj hlt hk => hlast y hy j hj hlt hk
       have hWn : ∀ y, y ∉ keys (W i) → getK (zeg W (fun j => listed.getD j false || j == i) ops.length) y = getK (zeg W (fun j => listed.getD j false) ops.length) y := fun y hy =>
               zcu W _ _ y ops.length fun j hj hk => by
                by_cases hji : j = i
                ·subst hji; exact absurd hk hy
                ·simp [hji]
       have hinj : ∀ y1 y2, y1 < M → y2 < M → ρ y1 = ρ y2 → y1 = y2 := fun y1 y2 g1 g2 hr => by
               simp only [ρ] at hr
               by_cases c1 : cr i = some y1 <;> by_cases c2 : cr i = some y2
               ·rw [c1] at c2; cases c2; rfl
               ·rw [if_pos c1, if_neg c2] at hr
                split at hr <;> omega
               ·rw [if_neg c1, if_pos c2] at hr
                split at hr <;> omega
               ·rw [if_neg c1, if_neg c2] at hr
                split at hr <;> split at hr <;> omega
       have hobs2 : ∀ y ob', getK (stW ops T W s M fun j => listed.getD j false || j == i).obs y = some ob' → y < M ∧
                ∃ ob, getK ((stW ops T W s M fun j => listed.getD j false).effS e' o.dst).obs (ρ y) = some ob ∧ Ob.le ρ ob ob' ∧ ob'.under M = true := fun y ob' hy => by
               simp only [stW, zaO] at hy
               cases hn : e'.nw with
               | none =>
                rw [hn] at hcase
                obtain ⟨hd0, hWU, hcn⟩ := hcase
                have hob : ∀ z, getK ((stW ops T W s M fun j => listed.getD j false).effS e' o.dst).obs z = match getK (W i) z with | some x => x | none => getK (stW ops T W s M fun j => listed.getD j false).obs z := fun z => by
                 simp only [St.effS, hn, zaO, hWU]
                 try rfl
                by_cases hk : y ∈ keys (W i)
                ·rw [hWi y hk] at hy
                 obtain ⟨x, hx⟩ := zd4 (W i) y hk
                 rw [hx] at hy
                 simp only at hy
                 subst hy
                 have hmem : (y, some ob') ∈ e'.U := by
                  rw [← hWU]
                  have : ∀ (l : Wr), getK l y = some (some ob') → (y, some ob') ∈ l := by
                   intro l
                   induction l with
                   | nil => intro h; cases h
                   | cons p l ih =>
                    obtain ⟨k', d'⟩ := p
                    intro h
                    rw [zaa] at h
                    by_cases hyk : y = k'
                    ·rw [if_pos hyk] at h; cases h; subst hyk; simp
                    ·rw [if_neg hyk] at h; exact List.mem_cons_of_mem _ (ih h)
                  exact this _ hx
                 obtain ⟨hga, o0, ho0⟩ := hgU _ hmem ob' rfl
                 obtain ⟨⟨hr, hlt⟩, _⟩ := hobs y o0 ho0
                 refine ⟨hlt, ob', ?_, (Ob.zc6 hga).1, (Ob.zc6 hga).2⟩
                 rw [hr, hob, hx]
                ·rw [hWn y hk] at hy
                 obtain ⟨⟨hr, hlt⟩, hga⟩ := hobs y ob' (by simp only [stW, zaO]; exact hy)
                 refine ⟨hlt, ob', ?_, (Ob.zc6 hga).1, (Ob.zc6 hga).2⟩
                 rw [hr, hob, zbC (W i) y hk]
                 simp only [stW, zaO]
                 exact hy
               | some nb =>
                rw [hn] at hcase
                obtain ⟨x0, hcx, hWU, hTi⟩ := hcase
                have hx0 := hcr i x0 hcx
                have hob : ∀ z, z ≠ M → getK ((stW ops T W s M fun j => listed.getD j false).effS e' o.dst).obs z = match getK e'.U z with | some x => x | none => getK (stW ops T W s M fun j => listed.getD j false).obs z := fun z hz => by
                 have : ∀ (q : St) (d : D), (q.put o.dst d).obs = q.obs := fun q d => by cases o.dst <;> rfl
                 simp only [St.effS, hn, this, zaa]
                 rw [if_neg (by simpa [stW] using hz), zaO]
                 try rfl
                have hobM : getK ((stW ops T W s M fun j => listed.getD j false).effS e' o.dst).obs M = some nb := by
                 have : ∀ (q : St) (d : D), (q.put o.dst d).obs = q.obs := fun q d => by cases o.dst <;> rfl
                 simp only [St.effS, hn, this, zaa]
                 rw [if_pos (by simp [stW])]
                by_cases hyx : y = x0
                ·subst hyx
                 have hk : y ∈ keys (W i) := by rw [hWU]; simp [keys]
                 rw [hWi y hk, hWU, zaa, if_pos rfl] at hy
                 simp only at hy
                 cases hy
                 have hga := hgN ob' hn
                 refine ⟨hx0.2, ob', ?_, (Ob.zc6 hga).1, (Ob.zc6 hga).2⟩
                 simp only [ρ]
                 rw [if_pos hcx]
                 exact hobM
                ·by_cases hk : y ∈ keys (W i)
                 ·rw [hWi y hk, hWU, zaa, if_neg hyx] at hy
                  have hk' : y ∈ e'.U.map (·.1) := by
                   rw [hWU] at hk
                   simp only [keys, List.map_cons, List.mem_cons] at hk
                   exact hk.resolve_left hyx
                  obtain ⟨x, hx⟩ := zd4 e'.U y hk'
                  rw [hx] at hy
                  simp only at hy
                  subst hy
                  have hmem : (y, some ob') ∈ e'.U := by
                   have : ∀ (l : Wr), getK l y = some (some ob') → (y, some ob') ∈ l := by
                    intro l
                    induction l with
                    | nil => intro h; cases h
                    | cons p l ih =>
                     obtain ⟨k', d'⟩ := p
                     intro h
                     rw [zaa] at h
                     by_cases hyk : y = k'
                     ·rw [if_pos hyk] at h; cases h; subst hyk; simp
                     ·rw [if_neg hyk] at h; exact List.mem_cons_of_mem _ (ih h)
                   exact this _ hx
                  obtain ⟨hga, o0, ho0⟩ := hgU _ hmem ob' rfl
                  obtain ⟨⟨hr, hlt⟩, _⟩ := hobs y o0 ho0
                  refine ⟨hlt, ob', ?_, (Ob.zc6 hga).1, (Ob.zc6 hga).2⟩
                  rw [hr, hob y (by omega), hx]
                 ·rw [hWn y hk] at hy
                  obtain ⟨⟨hr, hlt⟩, hga⟩ := hobs y ob' (by simp only [stW, zaO]; exact hy)
                  refine ⟨hlt, ob', ?_, (Ob.zc6 hga).1, (Ob.zc6 hga).2⟩
                  have hk' : y ∉ e'.U.map (·.1) := by
                   rw [hWU] at hk
                   simp only [keys, List.map_cons, List.mem_cons, not_or] at hk
                   exact hk.2
                  rw [hr, hob y (by omega), zbC e'.U y hk']
                  simp only [stW, zaO]
                  exact hy
       have henv2 : ∀ x d', getK (stW ops T W s M fun j => listed.getD j false || j == i).env x = some d' →
                (D.le ρ (((stW ops T W s M fun j => listed.getD j false).effS e' o.dst).at x) d' ∧ d'.under M = true) ∧ x < s.n := fun x d' hx => by
               simp only [stW] at hx
               by_cases hdx : o.dst = some x
               ·rw [henv x hdx] at hx
                cases hx
                have hlt : x < s.n := by rw [hdx] at hpo; exact hpo
                cases hn : e'.nw with
                | none =>
                 rw [hn] at hcase
                 rw [hcase.1] at hdx
                 cases hdx
                | some nb =>
                 rw [hn] at hcase
                 obtain ⟨x0, hcx, hWU, hTi⟩ := hcase
                 have hx0 := hcr i x0 hcx
                 have hρ : ρ x0 = M := by simp only [ρ]; rw [if_pos hcx]
                 refine ⟨⟨.inr (.inl ?_), ?_⟩, hlt⟩
                 ·rw [hTi]
                  simp only [St.effS, hn, hdx, St.put, St.at, zaa, if_true, Option.getD_some]
                  cases e'.how <;> simp [mkD, D.ren, hρ, stW]
                 ·rw [hTi]
                  cases e'.how <;> simp [mkD, D.under, hx0.2]
               ·rw [henv' x hdx] at hx
                obtain ⟨g1, g2⟩ := hs.env x d' hx
                have hgd := g2.good hknown
                have hat : ((stW ops T W s M fun j => listed.getD j false).effS e' o.dst).at x = d' := by
                 have : ∀ (q : St) (d : D), getK (q.put o.dst d).env x = getK q.env x := fun q d => by
                  cases hd : o.dst with
                  | none => rfl
                  | some y =>
                   have hne : ¬ x = y := fun e => hdx (by rw [hd, e])
                   simp only [St.put, zaa, if_neg hne]
                 simp only [St.at, St.effS]
                 cases hn : e'.nw with
                 | none => simp only [stW, hx]; rfl
                 | some nb => simp only [this, stW, hx]; rfl
                rw [hat]
                exact ⟨⟨.inr (.inl hgd.1.symm), hgd.2⟩, g1⟩
       refine ⟨?_, fun x d' hx => (henv2 x d' hx).1, fun x d' hx => ?_, hobs2, fun y1 y2 o1 o2 g1 g2 hr => hinj y1 y2 (hobs2 y1 o1 g1).1 (hobs2 y2 o2 g2).1 hr, fun j hj => ?_⟩
       ·have : ∀ (q : St) (d : D), (q.put o.dst d).n = q.n := fun q d => by cases o.dst <;> rfl
        simp only [St.effS]
        cases e'.nw <;> simp only [this] <;> rfl
       ·have : ∀ (q : St) (d : D), (q.put o.dst d).n = q.n := fun q d => by cases o.dst <;> rfl
        have e2 : ((stW ops T W s M fun j => listed.getD j false).effS e' o.dst).n = s.n := by
         simp only [St.effS]
         cases e'.nw <;> simp only [this] <;> rfl
        rw [e2]
        exact (henv2 x d' hx).2
       ·have c1 : cr i ≠ some j := fun e => by have := (hcr i j e).1; omega
        have c2 : ¬ un j := fun ⟨q, _, _, hc⟩ => by have := (hcr q j hc).1; omega
        refine ⟨by simp only [ρ]; rw [if_neg c1, if_neg c2], ?_⟩
        show j < M
        omega
      obtain ⟨g1, g2⟩ := Sim.weak h1 h2 hle
      refine go _ a' w' g1 g2 fun j x hj hu hc => ?_
      simp only [Kr.ren]
      split
      ·have c1 : cr i ≠ some x := fun e => by
               have := hcr1 i j x e hc
               subst this
               simp at hu
       have c2 : un x := ⟨j, hj, hu, hc⟩
       simp only [ρ]
       rw [if_neg c1, if_pos c2]
       refine h2.hdr _ ?_
       have : ∀ (q : St) (d : D), (q.put o.dst d).next = q.next := fun q d => by cases o.dst <;> rfl
       simp only [St.effS]
       cases e'.nw <;> simp only [this, stW] <;> omega
      ·rfl
     rcases hv with (⟨hv, hW, hcn, hR⟩ | ⟨e, he, hR, hcase⟩) | ⟨⟨fop, args, f, caps, O, O', L, hco, hcf, hcb, hR, hW, hkeys, hsm, hO, hnd, ⟨hdu, hOu⟩, hret⟩, hcn⟩ | ⟨fop, args, f, caps, O, e, nb, x0, hco, hcf, hcb, hR, ⟨heU, heN, hnu⟩, hcx, hO, hret⟩
     ·replace hv := zgL (s := stW ops T W s M fun j => decide (j < i)) (s' := stW ops T W s M fun j => listed.getD j false) (by rw [← hR]; exact hloc) hopd hv
      exact .inl (zmD hv hin hs fun K' v w' h1 h2 h3 h4 h5 => next hW K' v w' h1 h2 h3 h4 h5)
     ·
      replace he := zeF (s := stW ops T W s M fun j => decide (j < i)) (s' := stW ops T W s M fun j => listed.getD j false) (by rw [← hR]; exact hloc) hopd he
      have hgood := znh (g := Good ρ M) (fun _ => ⟨by simp [D.ren], by simp [D.under]⟩) (fun cs h => h.agg) he (fun x hx => (zaJ hs x).good hknown) (fun y ob hy => (hobs y ob hy).2)
      obtain ⟨e', he', ⟨rfl, hgU, hgN⟩⟩ := Lin.effD.2 _ hgood
      have he2 : effD P (stW ops T W s M fun j => listed.getD j false) o.op fun e => zaI o.dst (stW ops T W s M fun j => listed.getD j false) ∧ (e.nw = none → o.dst = none) ∧
               ((stW ops T W s M fun j => listed.getD j false).effS e o.dst) = (stW ops T W s M fun j => listed.getD j false).effS e' o.dst :=
       Lin.effD.1 _ _ (fun e hee => by
               subst hee
               refine ⟨hpo, fun hn => ?_, rfl⟩
               rw [hn] at hcase
               exact hcase.1) he
      refine .inl (zeW (k := fun s' => s' = (stW ops T W s M fun j => listed.getD j false).effS e' o.dst) (zkM he2) K a w hin hs _ _ (fun K' a' w' s' h1 h2 h3 => ?_) fun ch K' a' w' s' h1 h2 h3 => .inl ⟨K', s', h1, h2, h3⟩)
      have h3' : s' = _ := h3
      subst h3'
      exact mk e' hgU hgN hcase K' a' w' h1 h2
     ·
      let un : Nat → Prop := fun y => ∃ j, j < ops.length ∧ (listed.getD j false || j == i) = false ∧ cr j = some y
      let ρ : Nat → Nat := fun y => open Classical in if un y then M + 1 + y else y
      have hρs : ∀ y, y < s.next → ρ y = y := fun y hy => by
       have : ¬ un y := fun ⟨j, _, _, hc⟩ => by have := (hcr j y hc).1; omega
       simp only [ρ]; rw [if_neg this]
      have hknown : ∀ y h, K.hdr y = some h → ρ y = y ∧ y < M := fun y h hy => by
       have h2 : ¬ un y := fun ⟨j, hj, hu, hc⟩ => by
               simp only [Bool.or_eq_false_iff] at hu
               rw [hfr j y hj hu.1 hc] at hy
               cases hy
       refine ⟨by simp only [ρ]; rw [if_neg h2], ?_⟩
       rcases Nat.lt_or_ge y M with h | h
       ·exact h
       ·rw [hs.hdr y h] at hy; cases hy
      have hobs : ∀ y ob, getK (stW ops T W s M fun j => listed.getD j false).obs y = some ob → (ρ y = y ∧ y < M) ∧ ob.all (Good ρ M) := fun y ob hy => by
       have hok := hs.sat.ob y ob hy
       obtain ⟨h, h1, _⟩ := hok
       exact ⟨hknown y h h1, (hs.sat.ob y ob hy).good hknown⟩
      have hOact : ∀ p ∈ O, getK (stW ops T W s M fun j => listed.getD j false).obs p.1 = some p.2 := fun p hp => by
       rw [← hloc p.1 (by rw [hR]; exact List.mem_map.2 ⟨p, hp, rfl⟩)]
       exact hO p hp
      have hOget : ∀ y ob, getK O y = some ob → getK (stW ops T W s M fun j => listed.getD j false).obs y = some ob := fun y ob h => hOact _ (zdP h)
      let F := (stW ops T W s M fun j => listed.getD j false).obs.filter fun p => !(O.map (·.1)).contains p.1
      have hFg : ∀ y, getK F y = if (O.map (·.1)).contains y = true then none else getK (stW ops T W s M fun j => listed.getD j false).obs y := fun y => zbT _ _ y
      have hOn : ∀ y, ¬ (O.map (·.1)).contains y = true → getK O y = none := fun y h => zbC O y (by simpa using h)
      have heq : ∀ y, getK (stW ops T W s M fun j => listed.getD j false).obs y = getK (F ++ O) y := fun y => by
       rw [zab, hFg]
       by_cases hy : (O.map (·.1)).contains y = true
       ·rw [if_pos hy]
        obtain ⟨x, hx⟩ := zca (l := O) (y := y) (by simpa using hy)
        rw [hx, hOget y x hx]
       ·rw [if_neg hy, hOn y hy]
        cases getK (stW ops T W s M fun j => listed.getD j false).obs y <;> rfl
      have hF : ∀ y ob, getK F y = some ob → getK O y = none := fun y ob h => by
       rw [hFg] at h
       by_cases hy : (O.map (·.1)).contains y = true
       ·rw [if_pos hy] at h; cases h
       ·exact hOn y hy
      have hopdS : ∀ x, x ∈ fop :: args → opd (stW ops T W s M fun j => listed.getD j false) x = opd (stW ops T W s M fun j => decide (j < i)) x := fun x hx => (hopd x (by
       rcases o with ⟨odst, oop, ot, opos, oaf, og⟩
       unfold zbI at hco
       split at hco
       ·rename_i c hop
        simp only at hop
        subst hop
        split at hco
        ·cases hco
         rename_i f' hcal
         simp only [Op.operands, Call.operands, hcal]
         simp only [List.mem_cons] at hx
         simp
         rcases hx with rfl | hx
         ·exact .inl rfl
         ·exact .inr (by simpa using hx)
        ·cases hco
       ·cases hco)).symm
      have hcall : CallP P Γ fop args o.dst (stW ops T W s M fun j => listed.getD j false) fun s' => ∃ o1, (∀ y, getK o1 y = getK O' y) ∧ s' = (({ (stW ops T W s M fun j => listed.getD j false) with obs := F ++ o1, next := M } : St).put o.dst (T i)) :=
       CallP.xF F O (hret M (Nat.le_refl _)) heq hF (by rw [hopdS fop (by simp)]; exact hcf) hcb (by rw [List.map_congr_left fun x hx => hopdS x (by simp [hx])]) hpo
               (fun d o1 nx' _ ⟨h1, h2, h3⟩ => ⟨o1, h2, by cases h1; rw [h3]⟩) (fun ch o1 nx' _ ⟨h1, _⟩ => by cases h1)
      have heff : EffP P Γ o (stW ops T W s M fun j => listed.getD j false) fun s' => ∃ o1, (∀ y, getK o1 y = getK O' y) ∧ s' = (({ (stW ops T W s M fun j => listed.getD j false) with obs := F ++ o1, next := M } : St).put o.dst (T i)) := by
       have e := hcall
       rcases o with ⟨odst, oop, ot, opos, oaf, og⟩
       unfold zbI at hco
       split at hco
       ·rename_i c hop
        simp only at hop
        subst hop
        split at hco
        ·cases hco
         rename_i f' hcal
         obtain ⟨cal, cargs, cts⟩ := c
         simp only at hcal
         subst hcal
         exact EffP.guard (e cts ot opos oaf)
        ·cases hco
       ·cases hco
      refine .inl (heff K a w hin hs _ _ (fun K' a' w' s' h1 h2 h3 => ?_) fun ch K' a' w' s' h1 h2 h3 => .inl ⟨K', s', h1, h2, h3⟩)
      obtain ⟨o1, ho1, rfl⟩ := h3
      have hWi : ∀ y, y ∈ keys (W i) → getK (zeg W (fun j => listed.getD j false || j == i) ops.length) y = getK (W i) y := fun y hy =>
       zgI W _ i y hy ops.length hil fun j hj hlt hk => hlast y hy j hj hlt hk
      have hWn : ∀ y, y ∉ keys (W i) → getK (zeg W (fun j => listed.getD j false || j == i) ops.length) y = getK (zeg W (fun j => listed.getD j false) ops.length) y := fun y hy =>
       zcu W _ _ y ops.length fun j hj hk => by
               by_cases hji : j = i
               ·subst hji; exact absurd hk hy
               ·simp [hji]
      have hWg : ∀ y, getK (W i) y = if L.contains y = true then (getK O' y).map some else none := fun y => by
       rw [hW, zg7, zib]
       split <;> rfl
      have hkW : ∀ y, y ∈ keys (W i) ↔ L.contains y = true ∧ y ∈ O.map (·.1) := fun y => by
       rw [hW, ← hkeys]
       simp only [keys, List.map_map, List.mem_map, List.mem_filter, Function.comp]
       exact ⟨fun ⟨p, ⟨h1, h2⟩, h3⟩ => ⟨h3 ▸ h2, p, h1, h3⟩, fun ⟨h1, p, h2, h3⟩ => ⟨p, ⟨h2, by rw [h3]; exact h1⟩, h3⟩⟩
      have pobs : ∀ (q : St) (d : D), (q.put o.dst d).obs = q.obs := fun q d => by cases o.dst <;> rfl
      have pn : ∀ (q : St) (d : D), (q.put o.dst d).n = q.n := fun q d => by cases o.dst <;> rfl
      have pnext : ∀ (q : St) (d : D), (q.put o.dst d).next = q.next := fun q d => by cases o.dst <;> rfl
      have hobs2 : ∀ y ob', getK (stW ops T W s M fun j => listed.getD j false || j == i).obs y = some ob' → y < M ∧
               ∃ ob, getK (({ (stW ops T W s M fun j => listed.getD j false) with obs := F ++ o1, next := M } : St).put o.dst (T i)).obs (ρ y) = some ob ∧ Ob.le ρ ob ob' ∧ ob'.under M = true := fun y ob' hy => by
       rw [pobs]
       simp only [stW, zaO] at hy
       by_cases hk : y ∈ keys (W i)
       ·rw [hWi y hk, hWg, if_pos ((hkW y).1 hk).1] at hy
        have hyO : y ∈ O.map (·.1) := ((hkW y).1 hk).2
        obtain ⟨x0, hx0⟩ := zca (l := O) (y := y) hyO
        obtain ⟨⟨hr, hlt⟩, _⟩ := hobs y x0 (hOget y x0 hx0)
        cases hq : getK O' y with
        | none =>
         obtain ⟨x1, hx1⟩ := zca (l := O') (y := y) (by rw [hkeys]; exact hyO)
         rw [hx1] at hq
         cases hq
        | some ob =>
         rw [hq] at hy
         have hy : ob = ob' := by simpa using hy
         subst hy
         have hga := zey (M := M) hρs hM (hOu _ (zdP hq))
         refine ⟨hlt, ob, ?_, (Ob.zc6 hga).1, (Ob.zc6 hga).2⟩
         rw [hr, zab, hFg, if_pos (by simpa using hyO), ho1 y, hq]
       ·rw [hWn y hk] at hy
        obtain ⟨⟨hr, hlt⟩, hga⟩ := hobs y ob' (by simp only [stW, zaO]; exact hy)
        refine ⟨hlt, ob', ?_, (Ob.zc6 hga).1, (Ob.zc6 hga).2⟩
        by_cases hyO : (O.map (·.1)).contains y = true
        ·have hL : L.contains y = false := by
          cases hL : L.contains y with
          | false => rfl
          | true => exact absurd ((hkW y).2 ⟨hL, by simpa using hyO⟩) hk
         obtain ⟨x0, hx0⟩ := zca (l := O) (y := y) (by simpa using hyO)
         have hx1 := hOget y x0 hx0
         simp only [stW, zaO] at hx1
         rw [hy] at hx1
         rw [hr, zab, hFg, if_pos hyO, ho1 y, hsm y hL, hx0]
         exact hx1.symm
        ·rw [hr, zab, hFg, if_neg hyO]
         simp only [stW, zaO]
         rw [hy]
      have henv2 : ∀ x d', getK (stW ops T W s M fun j => listed.getD j false || j == i).env x = some d' →
               (D.le ρ ((({ (stW ops T W s M fun j => listed.getD j false) with obs := F ++ o1, next := M } : St).put o.dst (T i)).at x) d' ∧ d'.under M = true) ∧ x < s.n := fun x d' hx => by
       simp only [stW] at hx
       by_cases hdx : o.dst = some x
       ·rw [henv x hdx] at hx
        cases hx
        have hlt : x < s.n := by rw [hdx] at hpo; exact hpo
        have hg := zcd (M := M) hρs hM hdu
        refine ⟨⟨.inr (.inl ?_), hg.2⟩, hlt⟩
        simp only [hdx, St.put, St.at, zaa, if_true, Option.getD_some]
        exact hg.1.symm
       ·rw [henv' x hdx] at hx
        obtain ⟨g1, g2⟩ := hs.env x d' hx
        have hgd := g2.good hknown
        have hat : (({ (stW ops T W s M fun j => listed.getD j false) with obs := F ++ o1, next := M } : St).put o.dst (T i)).at x = d' := by
         have : ∀ (q : St) (d : D), getK (q.put o.dst d).env x = getK q.env x := fun q d => by
          cases hd : o.dst with
          | none => rfl
          | some y =>
           have hne : ¬ x = y := fun e => hdx (by rw [hd, e])
           simp only [St.put, zaa, if_neg hne]
         simp only [St.at, this, stW, hx]
         try rfl
        rw [hat]
        exact ⟨⟨.inr (.inl hgd.1.symm), hgd.2⟩, g1⟩
      have hinj : ∀ y1 y2, y1 < M → y2 < M → ρ y1 = ρ y2 → y1 = y2 := fun y1 y2 g1 g2 hr => by
       simp only [ρ] at hr
       split at hr <;> split at hr <;> omega
      have hle : St.Le Γ.n0 ρ (({ (stW ops T W s M fun j => listed.getD j false) with obs := F ++ o1, next := M } : St).put o.dst (T i)) (stW ops T W s M fun j => listed.getD j false || j == i) := by
       refine ⟨by rw [pn]; rfl, fun x d' hx => (henv2 x d' hx).1, fun x d' hx => by rw [pn]; exact (henv2 x d' hx).2, hobs2, fun y1 y2 o1 o2 g1 g2 hr => hinj y1 y2 (hobs2 y1 o1 g1).1 (hobs2 y2 o2 g2).1 hr, fun j hj => ⟨hρs j (by omega), ?_⟩⟩
       show j < M
       omega
      obtain ⟨g1, g2⟩ := Sim.weak h1 h2 hle
      refine go _ a' w' g1 g2 fun j x hj hu hc => ?_
      simp only [Kr.ren]
      split
      ·have c2 : un x := ⟨j, hj, hu, hc⟩
       simp only [ρ]
       rw [if_pos c2]
       refine h2.hdr _ ?_
       rw [pnext]
       show M ≤ M + 1 + x
       omega
      ·rfl
     ·
      have hOact : ∀ p ∈ O, getK (stW ops T W s M fun j => listed.getD j false).obs p.1 = some p.2 := fun p hp => by
       rw [← hloc p.1 (by rw [hR]; exact List.mem_map.2 ⟨p, hp, rfl⟩)]
       exact hO p hp
      have hOget : ∀ y ob, getK O y = some ob → getK (stW ops T W s M fun j => listed.getD j false).obs y = some ob := fun y ob h => hOact _ (zdP h)
      let F := (stW ops T W s M fun j => listed.getD j false).obs.filter fun p => !(O.map (·.1)).contains p.1
      have hFg : ∀ y, getK F y = if (O.map (·.1)).contains y = true then none else getK (stW ops T W s M fun j => listed.getD j false).obs y := fun y => zbT _ _ y
      have hOn : ∀ y, ¬ (O.map (·.1)).contains y = true → getK O y = none := fun y h => zbC O y (by simpa using h)
      have heq : ∀ y, getK (stW ops T W s M fun j => listed.getD j false).obs y = getK (F ++ O) y := fun y => by
       rw [zab, hFg]
       by_cases hy : (O.map (·.1)).contains y = true
       ·rw [if_pos hy]
        obtain ⟨x, hx⟩ := zca (l := O) (y := y) (by simpa using hy)
        rw [hx, hOget y x hx]
       ·rw [if_neg hy, hOn y hy]
        cases getK (stW ops T W s M fun j => listed.getD j false).obs y <;> rfl
      have hF : ∀ y ob, getK F y = some ob → getK O y = none := fun y ob h => by
       rw [hFg] at h
       by_cases hy : (O.map (·.1)).contains y = true
       ·rw [if_pos hy] at h; cases h
       ·exact hOn y hy
      have hopdS : ∀ x, x ∈ fop :: args → opd (stW ops T W s M fun j => listed.getD j false) x = opd (stW ops T W s M fun j => decide (j < i)) x := fun x hx => (hopd x (by
       rcases o with ⟨odst, oop, ot, opos, oaf, og⟩
       unfold zbI at hco
       split at hco
       ·rename_i c hop
        simp only at hop
        subst hop
        split at hco
        ·cases hco
         rename_i f' hcal
         simp only [Op.operands, Call.operands, hcal]
         simp only [List.mem_cons] at hx
         simp
         rcases hx with rfl | hx
         ·exact .inl rfl
         ·exact .inr (by simpa using hx)
        ·cases hco
       ·cases hco)).symm
      have hMn : getK (stW ops T W s M fun j => listed.getD j false).obs M = none := by
       cases hq : getK (stW ops T W s M fun j => listed.getD j false).obs M with
       | none => rfl
       | some ob =>
               obtain ⟨h, h1, _⟩ := hs.sat.ob M ob hq
               rw [hs.hdr M (Nat.le_refl _)] at h1
               cases h1
      have hcall : CallP P Γ fop args o.dst (stW ops T W s M fun j => listed.getD j false) fun s' => ∃ o1, (∀ y, getK o1 y = getK ((M, nb) :: O) y) ∧ s' = (({ (stW ops T W s M fun j => listed.getD j false) with obs := F ++ o1, next := M + 1 } : St).put o.dst (mkD e.how M)) :=
       CallP.xF F O (hret M (by first | exact Nat.le_refl _ | exact hM)) heq hF (by rw [hopdS fop (by simp)]; exact hcf) hcb (by rw [List.map_congr_left fun x hx => hopdS x (by simp [hx])]) hpo
               (fun d o1 nx' _ ⟨h1, h2, h3⟩ => ⟨o1, h2, by cases h1; rw [h3]⟩) (fun ch o1 nx' _ ⟨h1, _⟩ => by cases h1)
      have heff : EffP P Γ o (stW ops T W s M fun j => listed.getD j false) fun s' => ∃ o1, (∀ y, getK o1 y = getK ((M, nb) :: O) y) ∧ s' = (({ (stW ops T W s M fun j => listed.getD j false) with obs := F ++ o1, next := M + 1 } : St).put o.dst (mkD e.how M)) := by
       have e := hcall
       rcases o with ⟨odst, oop, ot, opos, oaf, og⟩
       unfold zbI at hco
       split at hco
       ·rename_i c hop
        simp only at hop
        subst hop
        split at hco
        ·cases hco
         rename_i f' hcal
         obtain ⟨cal, cargs, cts⟩ := c
         simp only at hcal
         subst hcal
         exact EffP.guard (e cts ot opos oaf)
        ·cases hco
       ·cases hco
      refine .inl (heff K a w hin hs _ _ (fun K' a' w' s' h1 h2 h3 => ?_) fun ch K' a' w' s' h1 h2 h3 => .inl ⟨K', s', h1, h2, h3⟩)
      obtain ⟨o1, ho1, rfl⟩ := h3
      refine mk e (by rw [heU]; simp) (fun ob h => by rw [heN] at h; cases h; exact zey hρs0 hM hnu) (by rw [heN]; exact ⟨x0, hcx⟩) K' a' w' h1 (h2.eqo ?_)
      have pobs : ∀ (q : St) (d : D), (q.put o.dst d).obs = q.obs := fun q d => by cases o.dst <;> rfl
      have pn : ∀ (q : St) (d : D), (q.put o.dst d).n = q.n := fun q d => by cases o.dst <;> rfl
      have pnext : ∀ (q : St) (d : D), (q.put o.dst d).next = q.next := fun q d => by cases o.dst <;> rfl
      have penv : ∀ (q q' : St) (d : D) (x : Nat), q.env = q'.env → getK (q.put o.dst d).env x = getK (q'.put o.dst d).env x := fun q q' d x e => by cases o.dst <;> simp [St.put, e]
      simp only [St.effS, heN]
      refine ⟨by rw [pn, pn], fun y => ?_, by rw [pnext, pnext]; rfl, fun x => penv _ _ _ x rfl⟩
      rw [pobs, pobs]
      simp only [heU]
      rw [zab, ho1, zaa, zaa]
      show _ = if y = M then some nb else getK (zaP [] (stW ops T W s M fun j => listed.getD j false).obs) y
      have hap : zaP [] (stW ops T W s M fun j => listed.getD j false).obs = (stW ops T W s M fun j => listed.getD j false).obs := rfl
      rw [hap]
      by_cases hy : y = M
      ·subst hy
       have hFM : getK F y = none := by rw [hFg, hMn]; split <;> rfl
       rw [hFM]
       simp
      ·rw [if_neg hy, if_neg hy, heq y, zab]
    ·rw [if_neg (by rw [hw]; simp)]
     exact next hv.2 K undef w hin (.refl _) rfl hs.sat (by rw [hv.1]; exact .u _ _ (.oth _))
 have h0 : (fun j => (Array.replicate ops.toArray.size false).getD j false) = fun _ => false := funext fun j => by
  by_cases hj : j < ops.length <;> simp [hj]
 refine key _ _ K a w0 (by simp) (by simp) (fun j y hj hS => ?_) hin0 ?_ (fun j x _ _ hc => hs.hdr x (hcr j x hc).1) (fun p _ _ => congrFun h0 p)
 ·have : (Array.replicate ops.toArray.size false).getD j false = false := congrFun h0 j
  rw [this] at hS
  cases hS
 ·rw [h0]
  have none : ∀ (l : List Oper) (i : Nat) (e : List (Nat × D)), zeE T (fun _ => false) l i e = e := by
   intro l
   induction l with
   | nil => intro i e; rfl
   | cons o l ih => intro i e; simp [zeE, ih]
  have wn : ∀ m, zeg W (fun _ => false) m = [] := by
   intro m
   induction m with
   | zero => rfl
   | succ m ih => simp [zeg, ih]
  refine ⟨hs0.sat.eqo fun y => ?_, hs0.defers, hs0.size, fun x d hx => hs0.env x d ?_, fun y hy => hs0.hdr y (Nat.le_trans hM hy)⟩
  ·simp only [stW, wn]; rfl
  ·simp only [stW, none] at hx; exact hx
abbrev znW := Ent × Nat
abbrev Fp4 := List (List Nat × List Nat × Nat)
def eE (E : Nat → znW) (j : Nat) : Ent := (E j).1
def tF4 (E : Nat → znW) (n : Nat) : Fp4 := (List.range n).map fun j => (tR (eE E) j, keys (tW (eE E) j), (E j).2)
def zq4 (P : Program) (N : Nat) (s : St) (o : O1) (e : Ent) : Prop :=
 match o.guard with
 | none => zoA P N s o.op o.dst e.1 e.2.1 e.2.2.1 e.2.2.2
 | some (t, want) => (∃ b, getK s.env t = some (.u (.bool b)) ∧ if b = want then zoA P N s o.op o.dst e.1 e.2.1 e.2.2.1 e.2.2.2 else e.1 = .un ∧ e.2.1 = [] ∧ e.2.2.1 = none) ∨
  (getK s.env t = some .un ∧ e.1 = .un ∧ e.2.1 = [] ∧ e.2.2.1 = none)
def Op4 (P : Program) (Γ : Ctx) (N : Nat) (s : St) (o : O1) (e : znW) : Prop :=
 if e.2 = 2 then e.1.2.1 = [] ∧ e.1.2.2.1 = none else if e.2 = 1 then o.guard = none ∧ zoy P Γ s o.op ∧ e.1.2.1 = [] ∧ e.1.2.2.1 = none else e.2 = 0 ∧ zq4 P N s o e.1
def ziu (P : Program) (Γ : Ctx) (N : Nat) : List O1 → St → Fp4 → (St → Fp4 → Prop) → Prop
 | [], s, fp, k => k s fp
 | o :: rest, s, fp, k => ∃ e : znW, zaI o.dst s ∧ Op4 P Γ N s o e ∧ (∀ x, e.1.2.2.1 = some x → x = s.next) ∧ ziu P Γ N rest (s.app o.dst e.1) (fp ++ [(e.1.2.2.2, keys e.1.2.1, e.2)]) k
def HD4 (P : Program) (Γ : Ctx) (N : Nat) (l : List O1) (s : St) (fp : Fp4) (C : Fp4 → Prop) (k : St → Prop) : Prop :=
 ∀ s0 : St, s0.Eqo s → ziu P Γ N l s0 fp fun s1 fp => C fp ∧ ((∀ p ∈ fp, p.2.2 ≠ 1) → ∃ s', s1.Eqo s' ∧ k s')
/-- The head of a list of operations goes through. -/
def zmv (P : Program) (Γ : Ctx) (N : Nat) (o : O1) (rest : List O1) (s : St) (fp : Fp4) (C : Fp4 → Prop) (k : St → Prop) : Prop :=
 ∀ s0 : St, s0.Eqo s → ∃ e : znW, zaI o.dst s0 ∧ Op4 P Γ N s0 o e ∧ e.2 ≠ 1 ∧ (∀ x, e.1.2.2.1 = some x → x = s0.next) ∧ ziu P Γ N rest (s0.app o.dst e.1) (fp ++ [(e.1.2.2.2, keys e.1.2.1, e.2)]) fun s1 fp => C fp ∧ ((∀ p ∈ fp, p.2.2 ≠ 1) → ∃ s', s1.Eqo s' ∧ k s')
theorem HD4.of_h {P Γ N o rest s fp C k} (h : zmv P Γ N o rest s fp C k) : HD4 P Γ N (o :: rest) s fp C k := fun s0 e => by
 obtain ⟨en, h1, h2, _, h3, h4⟩ := h s0 e
 exact ⟨en, h1, h2, h3, h4⟩
theorem zaS {P Γ N s fp C k} (hC : C fp) (h : k s) : HD4 P Γ N [] s fp C k := fun s0 e => ⟨hC, fun _ => ⟨s, e, h⟩⟩
theorem zeL {P Γ N s fp C k} (hC : C fp) (h : (fp.any fun p => p.2.2 == 1) = true) : HD4 P Γ N [] s fp C k := fun s0 e => ⟨hC, fun h1 => by
 obtain ⟨p, hp, hk⟩ := List.any_eq_true.1 h
 exact absurd (by simpa using hk) (h1 p hp)⟩
theorem zb0 {P Γ N s dst op rest fp C k} (_ : zbN op = false) (h : valD P s op fun d => zaI dst s ∧ HD4 P Γ N rest (s.put dst d) (fp ++ [(zbR s op, [], 0)]) C k) : zmv P Γ N ⟨dst, op, none⟩ rest s fp C k := fun s0 e => by
 obtain ⟨d, hv, hp, hr⟩ := Lin.valD.2 _ h
 refine ⟨((d, [], none, zbR s op), 0), by cases dst <;> simp_all [zaI, e.1], ?_, by simp, fun x hx => (by cases hx), hr _ (e.put dst d)⟩
 unfold Op4
 rw [if_neg (by simp), if_neg (by simp)]
 exact ⟨rfl, .inl (.inl ⟨by rw [zmE e]; exact hv, rfl, rfl, (zfF e op).symm⟩)⟩
theorem znF {P Γ N s dst op rest fp C k} (_ : zbN op = true) (h : effD P s op fun e => zaI dst s ∧ (e.nw = none → dst = none) ∧
  HD4 P Γ N rest (s.effS e dst) (fp ++ [(zbR s op, match e.nw with | none => (e.U.map (·.1), 0) | some _ => (s.next :: e.U.map (·.1), 0))]) C k) : zmv P Γ N ⟨dst, op, none⟩ rest s fp C k := fun s0 e0 => by
 obtain ⟨e, hv, hp, hd, hr⟩ := Lin.effD.2 _ h
 have hp0 : zaI dst s0 := by cases dst <;> simp_all [zaI, e0.1]
 have hv0 : effD P s0 op (· = e) := by rw [zng e0]; exact hv
 cases hn : e.nw with
 | none =>
  obtain rfl := hd hn
  refine ⟨((.any, e.U, none, zbR s op), 0), hp0, ?_, by simp, fun x hx => (by cases hx), ?_⟩
  ·unfold Op4
   rw [if_neg (by simp), if_neg (by simp)]
   exact ⟨rfl, .inl (.inr ⟨e, hv0, (zfF e0 op).symm, by rw [hn]; exact ⟨rfl, rfl, rfl⟩⟩)⟩
  rw [hn] at hr
  refine hr _ ?_
  simp only [St.app, St.effS, hn, St.put]
  exact ⟨e0.1, fun x => by simp only [zaO, e0.2.1 x], e0.2.2.1, e0.2.2.2⟩
 | some ob =>
  refine ⟨((mkD e.how s0.next, (s0.next, some ob) :: e.U, some s0.next, zbR s op), 0), hp0, ?_, by simp, fun x hx => (by cases hx; rfl), ?_⟩
  ·unfold Op4
   rw [if_neg (by simp), if_neg (by simp)]
   exact ⟨rfl, .inl (.inr ⟨e, hv0, (zfF e0 op).symm, by rw [hn]; exact ⟨s0.next, rfl, rfl, rfl⟩⟩)⟩
  rw [hn] at hr
  have h1 := hr (s0.app dst (mkD e.how s0.next, (s0.next, some ob) :: e.U, some s0.next, zbR s op)) (by
   simp only [St.app, St.effS, hn, e0.2.2.1]
   apply St.Eqo.put
   refine ⟨e0.1, fun x => ?_, by simp, e0.2.2.2⟩
   simp only [zaP, zax, zaa, zaO, e0.2.1 x])
  simp only [keys, List.map_cons]
  rw [e0.2.2.1] at h1 ⊢
  exact h1
theorem zaN {P Γ N s dst op rest fp C k} (h0 : zbN op = false) (h : valD P s op fun d => zaI dst s ∧ HD4 P Γ N rest (s.put dst d) (fp ++ [(zbR s op, [], 0)]) C k) : HD4 P Γ N (⟨dst, op, none⟩ :: rest) s fp C k := .of_h (zb0 h0 h)
theorem zbu {P Γ N s dst op rest fp C k} (h0 : zbN op = true) (h : effD P s op fun e => zaI dst s ∧ (e.nw = none → dst = none) ∧
  HD4 P Γ N rest (s.effS e dst) (fp ++ [(zbR s op, match e.nw with | none => (e.U.map (·.1), 0) | some _ => (s.next :: e.U.map (·.1), 0))]) C k) : HD4 P Γ N (⟨dst, op, none⟩ :: rest) s fp C k := .of_h (znF h0 h)
theorem zbl {P Γ N s dst op rest fp C k t want b} (hb : getK s.env t = some (.u (.bool b))) (hp : zaI dst s)
  (hy : b = want → zmv P Γ N ⟨dst, op, none⟩ rest (s.put (some t) (.u (.bool want))) fp C k)
  (hn : b = !want → HD4 P Γ N rest ((s.put (some t) (.u (.bool (!want)))).put dst .un) (fp ++ [([], [], 0)]) C k) : HD4 P Γ N (⟨dst, op, some (t, want)⟩ :: rest) s fp C k := fun s0 e => by
 have lit : ∀ b', b = b' → s.Eqo (s.put (some t) (.u (.bool b'))) := fun b' e' => ⟨rfl, fun _ => rfl, rfl, fun x => by
  subst e'
  simp only [St.put, zaa]
  split
  ·rename_i hx; rw [hx, hb]
  ·rfl⟩
 have hp0 : zaI dst s0 := by cases dst <;> simp_all [zaI, e.1]
 by_cases hw : b = want
 ·have e1 := e.trans (lit want hw)
  obtain ⟨en, h1, h2, h5, h3, h4⟩ := hy hw s0 e1
  refine ⟨en, h1, ?_, h3, h4⟩
  unfold Op4 at h2 ⊢
  by_cases h6 : en.2 = 2
  ·rw [if_pos h6] at h2 ⊢
   exact h2
  ·rw [if_neg h6, if_neg h5] at h2 ⊢
   exact ⟨h2.1, .inl ⟨b, by rw [e.2.2.2 t]; exact hb, by rw [if_pos hw]; exact h2.2⟩⟩
 ·have hw' : b = !want := by cases b <;> cases want <;> simp_all
  have e1 := e.trans (lit _ hw')
  refine ⟨((.un, [], none, []), 0), hp0, ?_, fun x hx => (by cases hx), hn hw' _ (e1.put dst .un)⟩
  unfold Op4
  rw [if_neg (by simp), if_neg (by simp)]
  exact ⟨rfl, .inl ⟨b, by rw [e.2.2.2 t]; exact hb, by rw [if_neg hw]; exact ⟨rfl, rfl, rfl⟩⟩⟩
theorem ze7 {P Γ N s dst op rest fp C k t want} (hb : getK s.env t = some .un) (hp : zaI dst s) (hn : HD4 P Γ N rest (s.put dst .un) (fp ++ [([], [], 0)]) C k) :
  HD4 P Γ N (⟨dst, op, some (t, want)⟩ :: rest) s fp C k := fun s0 e => by
 refine ⟨((.un, [], none, []), 0), by cases dst <;> simp_all [zaI, e.1], ?_, fun x hx => (by cases hx), hn _ (e.put dst .un)⟩
 unfold Op4
 rw [if_neg (by simp), if_neg (by simp)]
 exact ⟨rfl, .inr ⟨by rw [e.2.2.2 t]; exact hb, rfl, rfl, rfl⟩⟩
/-- An operation that is never reached, for one ahead of it panics. -/
theorem znH {P Γ N s dst op g rest fp C k} (hp : zaI dst s) (h : HD4 P Γ N rest (s.put dst .any) (fp ++ [([], [], 2)]) C k) : HD4 P Γ N (⟨dst, op, g⟩ :: rest) s fp C k := fun s0 e => by
 refine ⟨((.any, [], none, []), 2), by cases dst <;> simp_all [zaI, e.1], ?_, fun x hx => (by cases hx), h _ (e.put dst .any)⟩
 unfold Op4
 rw [if_pos rfl]
 exact ⟨rfl, rfl⟩
theorem zjk (W : Wr) {o o' : List (Nat × Ob)} (h : ∀ y, getK o y = getK o' y) : ∀ y, getK (zaP W o) y = getK (zaP W o') y := fun y => by rw [zaO, zaO, h y]
/-- A call that changes some of the objects it is handed, and makes none. -/
theorem zmw {P : Program} {Γ : Ctx} {N : Nat} {s : St} {dst : Option Tmp} {rest fp C k} {fop : Operand} {args : Array Operand} {ts : Array TypeId} {f caps} {ds : List D} {d : D} (O O' : List (Nat × Ob)) (L : List Nat)
  (hret : ∀ nx, s.next ≤ nx → RetX P f ds O nx fun r o n => r = .val d ∧ (∀ y, getK o y = getK O' y) ∧ n = nx)
  (hf : zaA (opd s fop) = some (f, caps)) (hc : zal P f = true) (hds : args.toList.map (opd s) ++ caps = ds) (hkeys : O'.map (·.1) = O.map (·.1)) (hsm : ∀ y, L.contains y = false → getK O' y = getK O y) (hO : ∀ p ∈ O, getK s.obs p.1 = some p.2) (hnd : (O.map (·.1)).Nodup)
  (hu : d.under N = true ∧ ∀ p ∈ O', p.2.under N = true) (hp : zaI dst s)
  (h : HD4 P Γ N rest (({ s with obs := zaP ((O'.filter fun p => L.contains p.1).map fun p => (p.1, some p.2)) s.obs } : St).put dst d) (fp ++ [(O.map (·.1), (O'.filter fun p => L.contains p.1).map (·.1), 0)]) C k) :
  HD4 P Γ N (⟨dst, .call { callee := .value fop, args, argTypes := ts }, none⟩ :: rest) s fp C k := fun s0 e => by
 refine ⟨((d, (O'.filter fun p => L.contains p.1).map (fun p => (p.1, some p.2)), none, O.map (·.1)), 0), by cases dst <;> simp_all [zaI, e.1], ?_, fun x hx => (by cases hx), ?_⟩
 ·unfold Op4
  rw [if_neg (by simp), if_neg (by simp)]
  refine ⟨rfl, .inr (.inl ⟨⟨fop, args.toList, f, caps, O, O', L, rfl, by rw [zds e]; exact hf, hc, rfl, rfl, hkeys, hsm, fun p hp => by rw [e.2.1]; exact hO p hp, hnd, hu, fun nx hnx => ?_⟩, rfl⟩)⟩
  have e1 : args.toList.map (opd s0) = args.toList.map (opd s) := List.map_congr_left fun x _ => zds e x
  rw [e1, hds]
  exact hret nx (by rw [e.2.2.1] at hnx; exact hnx)
 ·have := h (s0.app dst (d, (O'.filter fun p => L.contains p.1).map (fun p => (p.1, some p.2)), none, O.map (·.1))) (by
   simp only [St.app]
   apply St.Eqo.put
   exact ⟨e.1, zjk _ e.2.1, by simpa using e.2.2.1, e.2.2.2⟩)
  simpa [keys, List.map_map, Function.comp_def] using this
theorem zkI {O O' : List (Nat × Ob)} (hkeys : O'.map (·.1) = O.map (·.1)) : (O'.filter fun p => (O.map (·.1)).contains p.1) = O' := by
 refine List.filter_eq_self.2 fun p hp => ?_
 rw [← hkeys]
 simp only [List.contains_eq_mem, decide_eq_true_eq]
 exact List.mem_map.2 ⟨p, hp, rfl⟩
/-- A call that changes the objects it is handed, and makes none. -/
theorem zjU {P : Program} {Γ : Ctx} {N : Nat} {s : St} {dst : Option Tmp} {rest fp C k} {fop : Operand} {args : Array Operand} {ts : Array TypeId} {f caps} {ds : List D} {d : D} (O O' : List (Nat × Ob))
  (hret : ∀ nx, s.next ≤ nx → RetX P f ds O nx fun r o n => r = .val d ∧ (∀ y, getK o y = getK O' y) ∧ n = nx)
  (hf : zaA (opd s fop) = some (f, caps)) (hc : zal P f = true) (hds : args.toList.map (opd s) ++ caps = ds) (hkeys : O'.map (·.1) = O.map (·.1)) (hO : ∀ p ∈ O, getK s.obs p.1 = some p.2) (hnd : (O.map (·.1)).Nodup)
  (hu : d.under N = true ∧ ∀ p ∈ O', p.2.under N = true) (hp : zaI dst s)
  (h : HD4 P Γ N rest (({ s with obs := zaP (O'.map fun p => (p.1, some p.2)) s.obs } : St).put dst d) (fp ++ [(O.map (·.1), O'.map (·.1), 0)]) C k) :
  HD4 P Γ N (⟨dst, .call { callee := .value fop, args, argTypes := ts }, none⟩ :: rest) s fp C k :=
 zmw O O' (O.map (·.1)) hret hf hc hds hkeys (fun y hy => by
  rw [zbC O y (by simpa using hy), zbC O' y (by rw [hkeys]; simpa using hy)]) hO hnd hu hp (by rw [zkI hkeys]; exact h)
/-- A call that panics: nothing behind it is reached. -/
theorem znG {P : Program} {Γ : Ctx} {N : Nat} {s : St} {dst : Option Tmp} {rest fp C k} {fop : Operand} {args : Array Operand} {ts : Array TypeId} {f caps} {ds : List D} {post : Out → List (Nat × Ob) → Nat → Prop} (O : List (Nat × Ob))
  (hret : ∀ nx, s.next ≤ nx → RetX P f ds O nx post) (hno : ∀ d o n, ¬ post (.val d) o n)
  (hf : zaA (opd s fop) = some (f, caps)) (hc : zal P f = true) (hds : args.toList.map (opd s) ++ caps = ds) (hO : ∀ p ∈ O, getK s.obs p.1 = some p.2) (hp : zaI dst s)
  (hx : ∀ env ch o n, s.next ≤ n → post (.pan ch) o n → ∃ s2, Wk Γ { n := s.n, env := env, obs := (s.obs.filter fun p => !(O.map (·.1)).contains p.1) ++ o, next := n } s2 ∧ Γ.pan ch s2)
  (h : HD4 P Γ N rest (s.put dst .any) (fp ++ [([], [], 1)]) C k) :
  HD4 P Γ N (⟨dst, .call { callee := .value fop, args, argTypes := ts }, none⟩ :: rest) s fp C k := fun s0 e => by
 refine ⟨((.any, [], none, []), 1), by cases dst <;> simp_all [zaI, e.1], ?_, fun x hx => (by cases hx), h _ (e.put dst .any)⟩
 unfold Op4
 rw [if_neg (by simp), if_pos rfl]
 refine ⟨rfl, fun s' hn ho hopd hnx o hop hg hpo => ?_, rfl, rfl⟩
 obtain ⟨odst, oop, ot, opos, oaf, og⟩ := o
 simp only at hop hg hpo
 subst hop
 subst hg
 have hopS : ∀ x ∈ fop :: args.toList, opd s' x = opd s x := fun x hx => by
  rw [hopd x (by
   simp only [Op.operands, Call.operands]
   simp only [List.mem_cons] at hx
   simp
   rcases hx with rfl | hx
   ·exact .inl rfl
   ·exact .inr (by simpa using hx)), zds e]
 have hOget : ∀ y, getK s'.obs y = getK s.obs y := fun y => by rw [ho, e.2.1]
 have hcall : CallP P Γ fop args.toList odst s' fun _ => False :=
  CallP.xF (s'.obs.filter fun p => !(O.map (·.1)).contains p.1) O (hret s'.next (by rw [← e.2.2.1]; exact hnx)) (fun y => by
   rw [zab, zbT]
   by_cases hy : (O.map (·.1)).contains y = true
   ·rw [if_pos hy]
    obtain ⟨x, hx⟩ := zca (l := O) (y := y) (by simpa using hy)
    rw [hx, hOget y, hO _ (zdP hx)]
   ·rw [if_neg hy, zbC O y (by simpa using hy)]
    cases getK s'.obs y <;> rfl) (fun y ob hy => by
   rw [zbT] at hy
   by_cases hc : (O.map (·.1)).contains y = true
   ·rw [if_pos hc] at hy; cases hy
   ·exact zbC O y (by simpa using hc)) (by rw [hopS fop (by simp)]; exact hf) hc (by rw [List.map_congr_left fun x hx => hopS x (by simp [hx])]; exact hds) hpo
   (fun d o1 nx' _ hp => absurd hp (hno d o1 nx')) (fun ch o1 nx' hn' hp => by
     obtain ⟨s2, h1, h2⟩ := hx s'.env ch o1 nx' (by have := e.2.2.1; omega) hp
     refine ⟨s2, fun K a w hin hs => h1 K a w hin (hs.eqo ⟨by simp [hn, e.1], fun y => ?_, rfl, fun _ => rfl⟩), h2⟩
     simp only [zab, zbT, hOget])
 exact hcall ts ot opos oaf
theorem zjR {P : Program} {Γ : Ctx} {N : Nat} {all : Array Oper} {s0 : St} {ops : List Oper} {k : St → Fp4 → Prop} : ∀ (l : List O1) (tail : List Oper) (i : Nat) (E : Nat → znW), zby all tail = some l → (∀ j, tail[j]? = ops[i + j]?) →
  ziu P Γ N l (stE ops s0 (eE E) i) (tF4 E i) k → ∃ E' : Nat → znW, (∀ j, j < i → E' j = E j) ∧
   (∀ j o, i ≤ j → ops[j]? = some o → zaI o.dst s0 ∧ (if (E' j).2 = 2 then tW (eE E') j = [] ∧ tC (eE E') j = none else if (E' j).2 = 1 then o.guard = none ∧ zoy P Γ (stE ops s0 (eE E') j) o.op ∧ tW (eE E') j = [] ∧ tC (eE E') j = none else
     (E' j).2 = 0 ∧ zph P N all (stE ops s0 (eE E') j) o (tT (eE E') j) (tW (eE E') j) (tC (eE E') j) (tR (eE E') j)) ∧ ∀ x, tC (eE E') j = some x → x = s0.next + cnt (eE E') j) ∧
   k (stE ops s0 (eE E') (i + tail.length)) (tF4 E' (i + tail.length))
 | [], tail, i, E, hs, ht, h => by
  cases tail with
  | nil => exact ⟨E, fun _ _ => rfl, fun j o hj ho => by have := ht (j - i); rw [show i + (j - i) = j by omega, ho] at this; simp at this, by simpa [ziu] using h⟩
  | cons x l => simp only [zby] at hs; split at hs <;> simp at hs
 | o1 :: l, tail, i, E, hs, ht, h => by
  obtain ⟨x, tl, rfl, hx, hr⟩ := zfB hs
  obtain ⟨e, hp, hv, hnx, hc⟩ := h
  have hxi : ops[i]? = some x := by have := ht 0; simpa using this.symm
  have hdst : o1.dst = x.dst ∧ o1.op = x.op := by
   unfold zdg at hx
   split at hx
   ·simp at hx; subst hx; exact ⟨rfl, rfl⟩
   ·split at hx
    ·simp at hx; subst hx; exact ⟨rfl, rfl⟩
    ·cases hx
  let E1 : Nat → znW := fun j => if j = i then e else E j
  have h1 : ∀ j, j < i → E j = E1 j := fun j hj => by simp only [E1]; rw [if_neg (by omega)]
  have h1' : ∀ j, j < i → eE E j = eE E1 j := fun j hj => by simp only [eE, h1 j hj]
  have hi : E1 i = e := by simp [E1]
  have hi' : eE E1 i = e.1 := by simp only [eE, hi]
  have zb9 : (stE ops s0 (eE E) i).app o1.dst e.1 = stE ops s0 (eE E1) (i + 1) := by
   rw [zhB h1', hdst.1]
   simp only [stE, St.app]
   rw [zin (tT (eE E1)) i ops 0 s0.env x (Nat.zero_le _) (by simpa using hxi)]
   have hw : zeg (tW (eE E1)) (fun _ => true) (i + 1) = e.1.2.1 ++ zeg (tW (eE E1)) (fun _ => true) i := by
    rw [zeg, if_pos rfl, show tW (eE E1) i = e.1.2.1 by simp only [tW, hi']]
   have hcn : cnt (eE E1) (i + 1) = cnt (eE E1) i + if e.1.2.2.1.isSome then 1 else 0 := by
    rw [cnt, show tC (eE E1) i = e.1.2.2.1 by simp only [tC, hi']]
   rw [hw, zdz, hcn]
   have hT : tT (eE E1) i = e.1.1 := by simp only [tT, hi']
   cases x.dst with
   | none => simp only [St.put, Nat.add_assoc]
   | some y => simp only [St.put, hT, Nat.add_assoc]
  have hfp : tF4 E i ++ [(e.1.2.2.2, keys e.1.2.1, e.2)] = tF4 E1 (i + 1) := by
   have hc1 : tF4 E i = tF4 E1 i := List.map_congr_left fun j hj => by
    have := h1 j (List.mem_range.1 hj)
    simp only [eE, tR, tW, this]
   rw [hc1]
   simp only [tF4, List.range_succ, List.map_append, List.map_cons, List.map_nil]
   rw [show tR (eE E1) i = e.1.2.2.2 by simp only [tR, hi'], show tW (eE E1) i = e.1.2.1 by simp only [tW, hi'], hi]
  rw [zb9, hfp] at hc
  obtain ⟨E', g1, g2, g3⟩ := zjR l tl (i + 1) E1 hr (fun j => by have := ht (j + 1); rw [show i + 1 + j = i + (j + 1) by omega, ← this]; simp) hc
  refine ⟨E', fun j hj => by rw [g1 j (by omega), h1 j hj], fun j o hj ho => ?_, ?_⟩
  ·rcases Nat.lt_or_ge i j with h' | h'
   ·exact g2 j o h' ho
   ·obtain rfl : i = j := by omega
    rw [hxi] at ho
    cases ho
    have hEi : E' i = e := by rw [g1 i (by omega), hi]
    have hEi' : eE E' i = e.1 := by simp only [eE, hEi]
    have hst : stE ops s0 (eE E') i = stE ops s0 (eE E) i := zhB fun j hj => by simp only [eE]; rw [g1 j (by omega), ← h1 j hj]
    refine ⟨by rw [hdst.1] at hp; exact hp, ?_, fun y hy => ?_⟩
    ·rw [hst]
     simp only [tT, tW, tC, tR, hEi, hEi']
     unfold Op4 at hv
     by_cases c2 : e.2 = 2
     ·rw [if_pos c2] at hv ⊢
      exact hv
     ·rw [if_neg c2] at hv ⊢
      by_cases c1 : e.2 = 1
      ·rw [if_pos c1] at hv ⊢
       obtain ⟨v1, v2, v3⟩ := hv
       refine ⟨?_, by rw [← hdst.2]; exact v2, v3⟩
       unfold zdg at hx
       split at hx
       ·rename_i hg; exact hg
       ·split at hx
        ·simp at hx; subst hx; cases v1
        ·cases hx
      ·rw [if_neg c1] at hv ⊢
       obtain ⟨v0, hv⟩ := hv
       refine ⟨v0, ?_⟩
       unfold zdg at hx
       unfold zph
       unfold zq4 at hv
       split at hx
       ·rename_i hg
        simp at hx
        subst hx
        try rw [hg]
        exact hv
       ·rename_i q want hg
        split at hx
        ·rename_i t ht'
         simp at hx
         subst hx
         try rw [hg]
         exact ⟨t, ht', hv⟩
        ·cases hx
    ·have : tC (eE E') i = e.1.2.2.1 := by simp only [tC, hEi']
     rw [this] at hy
     have := hnx y hy
     rw [this, zfY (eE E') (eE E) i fun j hj => by simp only [eE]; rw [g1 j (by omega), ← h1 j hj]]
     try rfl
  ·rw [show i + (x :: tl).length = i + 1 + tl.length by simp; omega]
   exact g3
def zn6 (ops : List Oper) (fp : Fp4) : Bool :=
 okP ops (fp.map fun p => (p.1, p.2.1)) &&
 (List.range ops.length).all fun j => ((fp.getD j ([], [], 0)).2.2 != 2 || (List.range ops.length).any fun p => (fp.getD p ([], [], 0)).2.2 == 1 && zeq ops ops.length p j) &&
   ((fp.getD j ([], [], 0)).2.2 != 1 || (List.range ops.length).all fun i => (fp.getD i ([], [], 0)).2.1.isEmpty || zeq ops ops.length i j || zeq ops ops.length j i)
theorem znB {P Γ s} {R0 : Exit → St → Prop} {l : List Oper} (hord : zlo l = true) (hn0 : Γ.n0 ≤ s.next)
  (h : ∀ (C : Fp4 → Prop) (k : St → Prop), (∀ fp, zn6 l fp = true → C fp) → (∀ s', R0 .normal s' → k s') → match zby l.toArray l with | some l' => HD4 P Γ s.next l' s [] C k | none => False) :
  VA P Γ l s R0 := by
 have := h (fun fp => zn6 l fp = true) _ (fun _ h => h) fun _ h => h
 split at this
 ·rename_i l' hl
  have h0 : stE l s (eE fun _ => default) 0 = s := by
   have hnone : ∀ (l : List Oper) (i : Nat) (e : List (Nat × D)), zeE (tT (eE fun _ => default)) (fun j => decide (j < 0)) l i e = e := by
    intro l
    induction l with
    | nil => intro i e; rfl
    | cons o l ih => intro i e; exact ih (i + 1) e
   simp only [stE, hnone]
   try rfl
  have hc := this s (.refl s)
  rw [← h0] at hc
  obtain ⟨E, _, h2, hok, hfin⟩ := zjR l' l 0 (fun _ => default) hl (fun j => by rw [Nat.zero_add]) hc
  rw [Nat.zero_add] at hok hfin
  simp only [zn6, Bool.and_eq_true] at hok
  obtain ⟨hok1, hok2⟩ := hok
  have hlen4 : ∀ i, i < l.length → (tF4 E l.length).getD i ([], [], 0) = (tR (eE E) i, keys (tW (eE E) i), (E i).2) := fun i hi => by
   simp [tF4, hi]
  have hlen : ∀ i, i < l.length → ((tF4 E l.length).map fun p => (p.1, p.2.1)).getD i ([], []) = (tR (eE E) i, keys (tW (eE E) i)) := fun i hi => by
   simp [tF4, hi]
  have mono : ∀ i j, i ≤ j → cnt (eE E) i ≤ cnt (eE E) j := fun i j hij => by
   induction hij with
   | refl => exact Nat.le_refl _
   | step _ ih => simp only [cnt]; omega
  have hcr : ∀ i x, i < l.length → tC (eE E) i = some x → x = s.next + cnt (eE E) i ∧ cnt (eE E) (i + 1) = cnt (eE E) i + 1 := fun i x hi hx => by
   have := (h2 i _ (Nat.zero_le _) (List.getElem?_eq_getElem hi)).2.2 x hx
   exact ⟨this, by simp only [cnt, hx]; rfl⟩
  let cr : Nat → Option Nat := fun i => if i < l.length then tC (eE E) i else none
  let kd : Nat → Nat := fun i => if i < l.length then (E i).2 else 0
  let W : Nat → Wr := fun i => if i < l.length then tW (eE E) i else []
  have hWe : ∀ i, i < l.length → W i = tW (eE E) i := fun i hi => by simp only [W]; rw [if_pos hi]
  refine znC (T := tT (eE E)) (W := W) (cr := cr) (R := tR (eE E)) (kd := kd) (M := s.next + cnt (eE E) l.length) hord hn0 (by omega) (fun i x hx => ?_) (fun i j x hi hj => ?_) (fun i j hij hj hb => ?_) (fun i hk => ?_) (fun p i hp hi hw => ?_) (fun i o ho => ?_) (fun hnk => ?_)
  ·simp only [cr] at hx
   split at hx
   ·rename_i hi
    obtain ⟨e1, e2⟩ := hcr i x hi hx
    have := mono (i + 1) l.length hi
    omega
   ·cases hx
  ·simp only [cr] at hi hj
   split at hi
   ·rename_i hil
    split at hj
    ·rename_i hjl
     obtain ⟨e1, e2⟩ := hcr i x hil hi
     obtain ⟨e3, e4⟩ := hcr j x hjl hj
     rcases Nat.lt_trichotomy i j with hlt | hlt | hlt
     ·have := mono (i + 1) j hlt
      omega
     ·exact hlt
     ·have := mono (j + 1) i hlt
      omega
    ·cases hj
   ·cases hi
  ·have := (List.all_eq_true.1 ((List.all_eq_true.1 hok1) j (List.mem_range.2 hj))) i (List.mem_range.2 hij)
   rw [hb, hlen i (by omega), hlen j hj] at this
   simp only [Bool.false_or, Bool.and_eq_true] at this
   rw [hWe i (by omega), hWe j hj]
   refine ⟨fun y hy => ?_, fun y hy => zio this.2 y hy⟩
   have := zio this.1 y hy
   rw [List.mem_append, not_or] at this
   exact this
  ·simp only [kd] at hk
   split at hk
   ·rename_i hi
    obtain ⟨_, g2, _⟩ := h2 i _ (Nat.zero_le _) (List.getElem?_eq_getElem hi)
    have hci : cr i = tC (eE E) i := by simp only [cr]; rw [if_pos hi]
    rw [hWe i hi, hci]
    by_cases c2 : (E i).2 = 2
    ·rw [if_pos c2] at g2; exact g2
    ·rw [if_neg c2] at g2
     by_cases c1 : (E i).2 = 1
     ·rw [if_pos c1] at g2; exact g2.2.2
     ·rw [if_neg c1] at g2; exact absurd g2.1 hk
   ·exact absurd rfl hk
  ·simp only [kd] at hp
   split at hp
   ·rename_i hpl
    have := (List.all_eq_true.1 hok2) p (List.mem_range.2 hpl)
    rw [Bool.and_eq_true, hlen4 p hpl] at this
    have h3 := this.2
    simp only [hp] at h3
    have h4 : ((List.range l.length).all fun i => ((tF4 E l.length).getD i ([], [], 0)).2.1.isEmpty || zeq l l.length i p || zeq l l.length p i) = true := by simpa using h3
    have h5 := (List.all_eq_true.1 h4) i (List.mem_range.2 hi)
    rw [hlen4 i hi] at h5
    simp only [Bool.or_eq_true] at h5
    rcases h5 with (h5 | h5) | h5
    ·exfalso
     apply hw
     rw [hWe i hi]
     have : keys (tW (eE E) i) = [] := by simpa using h5
     simpa [keys] using this
    ·exact .inl h5
    ·exact .inr h5
   ·cases hp
  ·have hi := (List.getElem?_eq_some_iff.1 ho).1
   obtain ⟨g1, g2, g3⟩ := h2 i o (Nat.zero_le _) ho
   refine ⟨g1, ?_⟩
   have hwl : ∀ S m, m ≤ l.length → zeg W S m = zeg (tW (eE E)) S m := fun S m hm => zdp W (tW (eE E)) S m fun j hj => hWe j (by omega)
   have hst : stW l (tT (eE E)) W s (s.next + cnt (eE E) l.length) (fun j => decide (j < i)) = { stE l s (eE E) i with next := s.next + cnt (eE E) l.length } := by
    simp only [stW, stE]
    rw [hwl _ _ (Nat.le_refl _), zhu (tW (eE E)) i l.length (by omega)]
   have hcri : cr i = tC (eE E) i := by simp only [cr]; rw [if_pos hi]
   have hkdi : kd i = (E i).2 := by simp only [kd]; rw [if_pos hi]
   rw [hst, hcri, hkdi, hWe i hi]
   have opo : ∀ x, opd { stE l s (eE E) i with next := s.next + cnt (eE E) l.length } x = opd (stE l s (eE E) i) x := fun x => by cases x <;> rfl
   have eqo : ∀ (op : Op) (r : D → Prop), valD P { stE l s (eE E) i with next := s.next + cnt (eE E) l.length } op r = valD P (stE l s (eE E) i) op r := fun op r => zjZ rfl fun x _ => by cases x <;> rfl
   have ero : ∀ (op : Op), zbR { stE l s (eE E) i with next := s.next + cnt (eE E) l.length } op = zbR (stE l s (eE E) i) op := fun op => by
    have e : opd { stE l s (eE E) i with next := s.next + cnt (eE E) l.length } = opd (stE l s (eE E) i) := funext fun x => by cases x <;> rfl
    unfold zbR zbF zb7
    rw [e]
   have efo : ∀ (op : Op) (r : ERes → Prop), effD P { stE l s (eE E) i with next := s.next + cnt (eE E) l.length } op r = effD P (stE l s (eE E) i) op r := fun op r =>
    propext ⟨zeF (fun _ _ => rfl) fun x _ => by cases x <;> rfl, zeF (fun _ _ => rfl) fun x _ => by cases x <;> rfl⟩
   have hle : (stE l s (eE E) i).next ≤ s.next + cnt (eE E) l.length := by
    have := mono i l.length (by omega)
    simp only [stE]; omega
   have cao : ∀ (op : Op) (d : D) (W : Wr) (R : List Nat), zoG P s.next (stE l s (eE E) i) op d W R → zoG P s.next { stE l s (eE E) i with next := s.next + cnt (eE E) l.length } op d W R :=
    fun op d W R ⟨fop, args, f, caps, O, O', L, q1, q2, q3, q4, q5, q6, q6b, q7, q8, q9, q10⟩ => ⟨fop, args, f, caps, O, O', L, q1, by rw [opo]; exact q2, q3, q4, q5, q6, q6b, q7, q8, q9, fun nx hnx => by
     rw [List.map_congr_left fun x _ => opo x]
     exact q10 nx (Nat.le_trans hle hnx)⟩
   have c1x : ∀ (op : Op) (dst : Option Tmp) (d : D) (W : Wr) (cr : Option Nat) (R : List Nat), zoA P s.next (stE l s (eE E) i) op dst d W cr R → zoA P s.next { stE l s (eE E) i with next := s.next + cnt (eE E) l.length } op dst d W cr R :=
    fun op dst d W cr R h => by
     rcases h with h | ⟨h, hc⟩ | ⟨fop, args, f, caps, O, e, nb, x0, q1, q2, q3, q4, q5, q6, q7, q8⟩
     ·left
      unfold Op1 at h ⊢
      simp only [eqo, ero, efo]
      exact h
     ·exact .inr (.inl ⟨cao _ _ _ _ h, hc⟩)
     ·exact .inr (.inr ⟨fop, args, f, caps, O, e, nb, x0, q1, by rw [opo]; exact q2, q3, q4, q5, q6, q7, fun nx hnx => by
       rw [List.map_congr_left fun x _ => opo x]
       exact q8 nx (Nat.le_trans hle hnx)⟩)
   by_cases k2 : (E i).2 = 2
   ·rw [if_pos k2]
    have := (List.all_eq_true.1 hok2) i (List.mem_range.2 hi)
    rw [Bool.and_eq_true, hlen4 i hi] at this
    have h3 := this.1
    simp only [k2] at h3
    have h4 : ((List.range l.length).any fun p => ((tF4 E l.length).getD p ([], [], 0)).2.2 == 1 && zeq l l.length p i) = true := by simpa using h3
    obtain ⟨p, hp, h5⟩ := List.any_eq_true.1 h4
    have hpl := List.mem_range.1 hp
    rw [hlen4 p hpl, Bool.and_eq_true] at h5
    exact ⟨p, by simp only [kd]; rw [if_pos hpl]; simpa using h5.1, hpl, h5.2⟩
   ·rw [if_neg k2] at g2 ⊢
    by_cases k1 : (E i).2 = 1
    ·rw [if_pos k1] at g2 ⊢
     refine ⟨g2.1, fun s' a1 a2 a3 a4 => g2.2.1 s' a1 a2 (fun x hx => by rw [a3 x hx, opo]) (Nat.le_trans hle a4)⟩
    ·rw [if_neg k1] at g2 ⊢
     obtain ⟨_, g2⟩ := g2
     unfold zph at g2 ⊢
     split
     ·rename_i hg; rw [hg] at g2; exact c1x _ _ _ _ _ _ g2
     ·rename_i j want hg
      rw [hg] at g2
      obtain ⟨t, ht, g2⟩ := g2
      refine ⟨t, ht, ?_⟩
      rcases g2 with ⟨b, hb, g2⟩ | g2
      ·refine .inl ⟨b, hb, ?_⟩
       split
       ·rename_i hbw; rw [if_pos hbw] at g2; exact c1x _ _ _ _ _ _ g2
       ·rename_i hbw; rw [if_neg hbw] at g2; exact g2
      ·exact .inr g2
  ·obtain ⟨s', h3, h4⟩ := hfin fun p hp => by
    obtain ⟨i, hi, rfl⟩ := List.mem_map.1 hp
    have hil := List.mem_range.1 hi
    have := hnk i hil
    simp only [kd] at this
    rw [if_pos hil] at this
    exact this
   refine ⟨s', St.Eqo.trans (b := stE l s (eE E) l.length) ⟨rfl, fun x => ?_, rfl, fun x => ?_⟩ h3, h4⟩
   ·simp only [stW, stE]
    rw [zdp W (tW (eE E)) (fun _ => true) l.length fun j hj => hWe j hj]
   ·simp only [stW, stE]
    exact zcN (tT (eE E)) _ _ x l 0 s.env s.env rfl fun j o hj _ => by
     have := (List.getElem?_eq_some_iff.1 hj).1
     simp [this]
 ·exact this.elim
theorem zaM {P Γ s} {Q : Exit → St → Prop} {kt : Kt} {id : Nat} {l : List Oper} (hm : P.follows .mixedOrders = true) (hord : zlo l = true) (hn0 : Γ.n0 ≤ s.next)
  (h : ∀ (C : Fp4 → Prop) (k : St → Prop), (∀ fp, zn6 l fp = true → C fp) → (∀ s', zan P Γ Q kt .normal s' → k s') → match zby l.toArray l with | some l' => HD4 P Γ s.next l' s [] C k | none => False) :
  V P Γ (.region id l.toArray true) s (zan P Γ Q kt) := fun K a w hin hs => by
 refine wp_region_any hm ?_
 exact znB (R0 := zan P Γ Q kt) hord hn0 h K a w hin hs
end Go.VL
namespace Go.VL
open Go
/-- Numbers of objects by their places: the first zex are those that were handed over. -/
def zhI (ids : List Nat) (nx k : Nat) : Nat := match ids[k]? with | some x => x | none => nx + (k - ids.length)
theorem zmL {ids : List Nat} {nx : Nat} (hd : ids.Nodup) (hlt : ∀ x ∈ ids, x < nx) {a b : Nat} (h : zhI ids nx a = zhI ids nx b) : a = b := by
 unfold zhI at h
 rcases ha : ids[a]? with _ | x <;> rcases hb : ids[b]? with _ | y <;> rw [ha, hb] at h <;> simp only at h
 ·have := List.getElem?_eq_none_iff.1 ha
  have := List.getElem?_eq_none_iff.1 hb
  omega
 ·have := hlt y (List.mem_of_getElem? hb)
  omega
 ·have := hlt x (List.mem_of_getElem? ha)
  omega
 ·obtain ⟨h1, h2⟩ := List.getElem?_eq_some_iff.1 ha
  obtain ⟨h3, h4⟩ := List.getElem?_eq_some_iff.1 hb
  rw [List.nodup_iff_pairwise_ne, List.pairwise_iff_getElem] at hd
  rcases Nat.lt_trichotomy a b with hlt' | hlt' | hlt'
  ·exact absurd (h2.trans (h.trans h4.symm)) (hd a b h1 h3 hlt')
  ·exact hlt'
  ·exact absurd (h2.trans (h.trans h4.symm)).symm (hd b a h3 h1 hlt')
inductive KL (ids : List Nat) (nx : Nat) : List Nat → List Nat → Prop
 | nil : KL ids nx [] []
 | cons (k : Nat) {x l l0} (h : zhI ids nx k = x) (t : KL ids nx l l0) : KL ids nx (x :: l) (k :: l0)
theorem KL.map {ids nx l l0} (h : KL ids nx l l0) : l = l0.map (zhI ids nx) := by
 induction h with
 | nil => rfl
 | cons k h t ih => rw [List.map_cons, h, ← ih]
inductive KF (ids : List Nat) (nx : Nat) : Fp4 → Fp4 → Prop
 | nil : KF ids nx [] []
 | cons {a a0 b b0 k fp fp0} (h1 : KL ids nx a a0) (h2 : KL ids nx b b0) (h3 : KF ids nx fp fp0) : KF ids nx ((a, b, k) :: fp) ((a0, b0, k) :: fp0)
theorem KF.map {ids nx l l0} (h : KF ids nx l l0) : l = l0.map fun p => (p.1.map (zhI ids nx), p.2.1.map (zhI ids nx), p.2.2) := by
 induction h with
 | nil => rfl
 | cons h1 h2 _ ih => rw [List.map_cons, ← h1.map, ← h2.map, ← ih]
theorem zmg {ρ : Nat → Nat} (hρ : ∀ a b, ρ a = ρ b → a = b) (a b : List Nat) : zkN (a.map ρ) (b.map ρ) = zkN a b := by
 unfold zkN
 rw [List.all_map]
 congr 1
 funext y
 simp only [Function.comp]
 congr 1
 rw [Bool.eq_iff_iff]
 simp only [List.contains_eq_mem, decide_eq_true_eq, List.mem_map]
 exact ⟨fun ⟨z, h1, h2⟩ => hρ _ _ h2 ▸ h1, fun h => ⟨y, h, rfl⟩⟩
theorem zcI {ops : List Oper} {fp : Fp4} (ids : List Nat) (nx : Nat) (hd : ids.Nodup) (hlt : ∀ x ∈ ids, x < nx) (h : ∃ fp0, KF ids nx fp fp0 ∧ zn6 ops fp0 = true) : zn6 ops fp = true := by
 obtain ⟨fp0, hk, h⟩ := h
 have hr := hk.map
 subst hr
 have hρ : ∀ a b, zhI ids nx a = zhI ids nx b → a = b := fun a b => zmL hd hlt
 have g4 : ∀ i, (fp0.map fun p => (p.1.map (zhI ids nx), p.2.1.map (zhI ids nx), p.2.2)).getD i ([], [], 0) = (((fp0.getD i ([], [], 0)).1.map (zhI ids nx), (fp0.getD i ([], [], 0)).2.1.map (zhI ids nx), (fp0.getD i ([], [], 0)).2.2)) := fun i => by
  simp only [List.getD_eq_getElem?_getD, List.getElem?_map]
  cases fp0[i]? <;> rfl
 have g2 : ∀ i, ((fp0.map fun p => (p.1.map (zhI ids nx), p.2.1.map (zhI ids nx), p.2.2)).map fun p => (p.1, p.2.1)).getD i ([], []) =
   ((((fp0.map fun p => (p.1, p.2.1)).getD i ([], [])).1.map (zhI ids nx), ((fp0.map fun p => (p.1, p.2.1)).getD i ([], [])).2.map (zhI ids nx))) := fun i => by
  simp only [List.getD_eq_getElem?_getD, List.getElem?_map]
  cases fp0[i]? <;> rfl
 unfold zn6 okP at h ⊢
 simp only [g4, g2, ← List.map_append, zmg hρ, List.isEmpty_map] at h ⊢
 exact h
/-- A call that changes the one object it is handed. -/
theorem zf4 {P : Program} {Γ : Ctx} {N : Nat} {s : St} {dst : Option Tmp} {rest fp C k} {fop : Operand} {args : Array Operand} {ts : Array TypeId} {f caps} {ds : List D} {d : D} {j : Nat} {ob ob' : Ob}
  (hret : ∀ nx, s.next ≤ nx → RetX P f ds [(j, ob)] nx fun r o n => r = .val d ∧ o = [(j, ob')] ∧ n = nx)
  (hj : getK s.obs j = some ob) (hf : zaA (opd s fop) = some (f, caps)) (hc : zal P f = true) (hds : args.toList.map (opd s) ++ caps = ds)
  (hu : d.under N = true ∧ ob'.under N = true) (hp : zaI dst s)
  (h : HD4 P Γ N rest (({ s with obs := zaP [(j, some ob')] s.obs } : St).put dst d) (fp ++ [([j], [j], 0)]) C k) :
  HD4 P Γ N (⟨dst, .call { callee := .value fop, args, argTypes := ts }, none⟩ :: rest) s fp C k :=
 zjU [(j, ob)] [(j, ob')] (fun nx hnx => (hret nx hnx).mono fun r o n ⟨h1, h2, h3⟩ => ⟨h1, fun y => by rw [h2], h3⟩) hf hc hds rfl (by simpa using hj) (by simp) ⟨hu.1, by simpa using hu.2⟩ hp h
/-- The same, and it panics. -/
theorem zeK {P : Program} {Γ : Ctx} {N : Nat} {s : St} {dst : Option Tmp} {rest fp C k} {fop : Operand} {args : Array Operand} {ts : Array TypeId} {f caps} {ds : List D} {j : Nat} {ob : Ob} {ch : List PanicEntry} {p : Ob → Prop}
  (hret : ∀ nx, s.next ≤ nx → RetX P f ds [(j, ob)] nx fun r o n => r = .pan ch ∧ (∃ ob', p ob' ∧ o = [(j, ob')]) ∧ n = nx)
  (hj : getK s.obs j = some ob) (hf : zaA (opd s fop) = some (f, caps)) (hc : zal P f = true) (hds : args.toList.map (opd s) ++ caps = ds) (hp : zaI dst s)
  (hx : ∀ env ob' n, s.next ≤ n → p ob' → ∃ s2, Wk Γ { n := s.n, env := env, obs := del s.obs j ++ [(j, ob')], next := n } s2 ∧ Γ.pan ch s2)
  (h : HD4 P Γ N rest (s.put dst .any) (fp ++ [([], [], 1)]) C k) :
  HD4 P Γ N (⟨dst, .call { callee := .value fop, args, argTypes := ts }, none⟩ :: rest) s fp C k := by
 have hfil : (s.obs.filter fun p => !(([(j, ob)] : List (Nat × Ob)).map (·.1)).contains p.1) = del s.obs j := by
  unfold del
  congr 1
  funext p
  simp only [List.map_cons, List.map_nil, List.contains_cons, List.contains_nil, Bool.or_false]
 refine znG (post := fun r o _ => r = .pan ch ∧ ∃ ob', p ob' ∧ o = [(j, ob')]) [(j, ob)] (fun nx hnx => (hret nx hnx).mono fun r o n ⟨h1, h2, _⟩ => ⟨h1, h2⟩) (fun d o n h => by cases h.1) hf hc hds (by simpa using hj) hp (fun env ch' o n hn h => ?_) h
 obtain ⟨h1, ob', h2, rfl⟩ := h
 cases h1
 rw [hfil]
 exact hx env ob' n hn h2
/-- Behind a call that panics. -/
theorem zdX {P Γ N s dst op g rest fp C k} (_ : (fp.any fun p => p.2.2 == 1) = true) (hp : zaI dst s) (h : HD4 P Γ N rest (s.put dst .any) (fp ++ [([], [], 2)]) C k) : HD4 P Γ N (⟨dst, op, g⟩ :: rest) s fp C k := znH hp h
/-- The end of a call: without its slots and its own objects. -/
theorem FinOK.cut {n0 : Nat} {post : D → List (Nat × Ob) → Nat → Prop} {s : St} {d : D} (obs : List (Nat × Ob)) (N : Nat) (ho : ∀ p ∈ obs, getK s.obs p.1 = some p.2 ∧ p.1 < N ∧ p.2.under N = true) (hd : d.under N = true) (hn : n0 ≤ N)
  (h : post d obs N) : FinOK n0 post s d :=
 .inl ⟨{ s with env := [], obs := obs, next := N }, fun i => i, d, ⟨rfl, fun x d' hx => by simp [getK] at hx, fun x d' hx => by simp [getK] at hx,
  fun i ob hi => ⟨(ho _ (zem hi)).2.1, ob, (ho _ (zem hi)).1, Ob.le_id ob, (ho _ (zem hi)).2.2⟩, fun _ _ _ _ _ _ h => h, fun i hi => ⟨rfl, Nat.lt_of_lt_of_le hi hn⟩⟩, D.le_id d, hd, hn, h⟩
def zpA : D → Bool
 | .vec .. => true
 | _ => false
/-- A slice that is handed over and not needed any more is frozen ahead of the call. -/
theorem zaF {P : Program} {Γ : Ctx} {s : St} {k : St → Prop} {dst : Option Tmp} {fop : Operand} {args : List Operand} (_ : (args.map (opd s)).any zpA = true) (h : CallP P Γ fop args dst (frzN 1 s) k) : CallP P Γ fop args dst s k :=
 zjV (Wk.frzN 1 _) h
end Go.VL
namespace Go.VL
open Go
def zjc {α : Type} (obs : List (Nat × α)) : List Nat → List (Nat × α)
 | [] => obs
 | i :: l => zjc (del obs i) l
theorem zep {α : Type} : ∀ (l : List Nat) (obs : List (Nat × α)), zjc obs l = obs.filter fun p => !l.contains p.1
 | [], obs => by rw [zjc]; exact (List.filter_eq_self.2 (by simp)).symm
 | i :: l, obs => by
  rw [zjc, zep l, del, List.filter_filter]
  congr 1
  funext p
  simp only [List.contains_cons]
  cases p.1 == i <;> cases l.contains p.1 <;> rfl
theorem zjP {obs O : List (Nat × Ob)} (hO : ∀ p ∈ O, getK obs p.1 = some p.2) (i : Nat) : getK obs i = getK (zjc obs (O.map (·.1)) ++ O) i := by
 rw [zep, zab, zbT]
 by_cases hy : (O.map (·.1)).contains i = true
 ·rw [if_pos hy]
  obtain ⟨x, hx⟩ := zca (l := O) (y := i) (by simpa using hy)
  rw [hx, hO _ (zdP hx)]
 ·rw [if_neg hy, zbC O i (by simpa using hy)]
  cases getK obs i <;> rfl
theorem zip {obs O : List (Nat × Ob)} (i : Nat) (ob : Ob) (h : getK (zjc obs (O.map (·.1))) i = some ob) : getK O i = none := by
 rw [zep, zbT] at h
 by_cases hc : (O.map (·.1)).contains i = true
 ·rw [if_pos hc] at h; cases h
 ·exact zbC O i (by simpa using hc)
/-- A call that is handed objects, and goes through. -/
theorem CallP.okL {P : Program} {Γ : Ctx} {s : St} {k : St → Prop} {dst : Option Tmp} {fop : Operand} {args : List Operand} {f caps} {ds : List D} {O O' : List (Nat × Ob)} {d : D} {N : Nat}
  (hret : RetX P f ds O s.next fun r o n => r = .val d ∧ o = O' ∧ n = N) (hO : ∀ p ∈ O, getK s.obs p.1 = some p.2)
  (hf : zaA (opd s fop) = some (f, caps)) (hc : zal P f = true) (hds : args.map (opd s) ++ caps = ds) (hp : zaI dst s)
  (hk : k (({ s with obs := zjc s.obs (O.map (·.1)) ++ O', next := N } : St).put dst d)) : CallP P Γ fop args dst s k :=
 CallP.xF (zjc s.obs (O.map (·.1))) O hret (zjP hO) zip hf hc hds hp (fun d' o1 nx' _ ⟨h1, h2, h3⟩ => by cases h1; subst h2; subst h3; exact hk) (fun ch o1 nx' _ ⟨h1, _⟩ => by cases h1)
theorem zf3 {P : Program} {Γ : Ctx} {N : Nat} {s : St} {dst : Option Tmp} {rest fp C k} {fop : Operand} {args : Array Operand} {ts : Array TypeId} {f caps} {ds : List D} {d : D} {O O' : List (Nat × Ob)}
  (hret : ∀ nx, s.next ≤ nx → RetX P f ds O nx fun r o n => r = .val d ∧ o = O' ∧ n = nx)
  (hO : ∀ p ∈ O, getK s.obs p.1 = some p.2) (hkeys : O'.map (·.1) = O.map (·.1)) (hnd : (O.map (·.1)).Nodup)
  (hf : zaA (opd s fop) = some (f, caps)) (hc : zal P f = true) (hds : args.toList.map (opd s) ++ caps = ds)
  (hu : d.under N = true ∧ ∀ p ∈ O', p.2.under N = true) (hp : zaI dst s)
  (h : HD4 P Γ N rest (({ s with obs := zaP (O'.map fun p => (p.1, some p.2)) s.obs } : St).put dst d) (fp ++ [(O.map (·.1), O'.map (·.1), 0)]) C k) :
  HD4 P Γ N (⟨dst, .call { callee := .value fop, args, argTypes := ts }, none⟩ :: rest) s fp C k :=
 zjU O O' (fun nx hnx => (hret nx hnx).mono fun r o n ⟨h1, h2, h3⟩ => ⟨h1, fun y => by rw [h2], h3⟩) hf hc hds hkeys hO hnd hu hp h
/-- A function is left behind which a deferred one is called that is handed objects. -/
theorem LeaveD.of {P : Program} {Γb : Ctx} {fn : Func} {post : Out → List (Nat × Ob) → Nat → Prop} {g : FuncId} {caps : List D} {u : FrameMode} {s : St} (O : List (Nat × Ob)) {O' : List (Nat × Ob)} (hO : ∀ p ∈ O, getK s.obs p.1 = some p.2)
  (h : RetDf P g caps O s.next u fun u' o n => settle u' = .returning ∧ n = s.next ∧ o = O') (hk : EndW P Γb fn Γb.n0 (fun d o n => post (.val d) o n) .ret { s with obs := zjc s.obs (O.map (·.1)) ++ O', next := s.next }) :
  LeaveD P Γb fn post g caps u s :=
 ((h.frame (zjc s.obs (O.map (·.1))) zip).congr (zjP hO)).mono fun u' o n ⟨o1, ho, hs, hn, ho1⟩ => ⟨hs, by subst ho; subst ho1; subst hn; exact hk⟩
end Go.VL
namespace Go.VL
open Go
open Go.ChangeShapes Go.WideShapes Go.ChangeAt Go.WideMaps Go.WideElems Go.RowKit
theorem zm1 {H : Type} {enc : TypeId × Value → H} {C : Checked} {os : Os} {f : FuncId} {fn : Func} {s : ChangeSpec} {conds : List PathCond} {apart fresh handsOn again : Bool} {tb : TypeId} {laid : List (String × DataW Unit)}
  (own : ownKnob C.prog.godebug = none) (started : os.Started) (noInit : C.prog.inits.idxOf? f = none) (hfn : C.prog.funcs[f]? = some fn)
  (witness : ∃ (w : World) (tape : Tape) (i : Input), w.os = os ∧ (w.forCall tape i).Shaped C.prog ∧ i.vars = [] ∧ Input.okWide C.prog (w.forCall tape i) .any w.heap.size f i ∧
    ((s.pre enc C.prog fn conds apart (w.forCall tape i).memory i.args ∧ laidMetH C.prog laid (w.forCall tape i).memory) ∧ sizedMet enc C.prog fn (OpenSpec.ofChange s) apart (w.forCall tape i).memory i.args) ∧ (({} : Assume)).holds C.prog (lone (Frame.enter C.prog f i.args .normal) [] (w.forCall tape i)))
  (hl : laidOutB C.prog = true) (hseq : zgl C.prog = true) (hpar : (fn.params.toList.all fun t => C.prog.readableRec t && decide (t < C.prog.types.size)) = true)
  (hvars : s.vars = []) (hspec : ∀ ds : List (DataW H), ds.length = fn.params.size → s.fn H ds = { results := [.lit (.bool true)], args := ds })
  (hres : fn.resultTypes = #[tb]) (htb : C.prog.underlying tb = some .bool)
  (hfun : ∀ us : List U, znJ C.prog fn.params.toList us → Fun C.prog f (us.map .u) (· = .u (.bool true))) (hglob : ∀ W : World, laidMetH C.prog laid W → GlobIn (zht W)) :
  ReturnsInHanded {} C os f .any (fun w args => (s.pre enc C.prog fn conds apart w args ∧ laidMetH C.prog laid w) ∧ sizedMet enc C.prog fn (OpenSpec.ofChange s) apart w args) (s.post enc C.prog fn apart fresh handsOn again) := by
 refine returnsInHanded_of_change_and (X := fun w _ => laidMetH C.prog laid w) (fun _ _ _ hh h => h.of_heap hh) own started noInit hfn witness ?_
 intro W base args ds gs before hval hW _ _ hL _
 have hpar' : ∀ t ∈ fn.params.toList, C.prog.readableRec t = true ∧ t < C.prog.types.size := by
  intro t ht
  have := List.all_eq_true.1 hpar t ht
  simpa using this
 have hW' := hW
 obtain ⟨p, q, hA, hV, rfl, hfz, hnd⟩ := hW
 rw [hvars] at hV
 obtain ⟨rfl, rfl⟩ := trodVars_none hV
 have hlt : ∀ x ∈ p, x.block < W.heap.size := fun x hx => hW'.lt x (by simp [hx])
 obtain ⟨us, h1, h2, _⟩ := zjS hseq hA (fun t ht => (hpar' t ht).2) (fun j t v ht hv => hval j t v (by simpa using ht) (by simpa using hv))
 refine (ziv (hfun us h1) (hglob W hL) h2).mono ?_
 rintro e W' ⟨rfl, hb⟩
 have hdl : ds.length = fn.params.size := by
  have : ∀ {ts : List TypeId} {vs : List Value} {ds : List (DataW H)} {p : List MemPlace}, DataW.TrodAll enc C.prog W 0 (fun _ => true) true ts vs ds p → ds.length = ts.length := by
   intro ts
   induction ts with
   | nil => intro vs ds p h; cases vs <;> cases ds <;> simp_all [DataW.TrodAll]
   | cons t ts ih =>
    intro vs ds p h
    cases vs <;> cases ds <;> simp only [DataW.TrodAll] at h
    obtain ⟨p, q, _, h2, _⟩ := h
    simp [ih h2]
  simpa using this hA
 have hs := hspec ds hdl
 refine ⟨_, rfl, zka (pa := p) (pv := []) hW' (fun b sp hd => ?_) (fun sp hsp => ?_) (fun sp _ => ?_) rfl hb (fun j t r ht hr => ?_)⟩
 ·rw [List.append_nil, hs, hres]
  exact trodAll_mk1 ⟨1, by simp [DataW.trod, Value.cells, htb]⟩
 ·rw [List.append_nil, hs]
  exact zes hl hb hpar' hA hlt fun x hx => hsp x (by simp [hx])
 ·rw [List.append_nil, hs, hvars]
  try rfl
 ·rw [hres] at ht hr
  cases j with
  | zero =>
   simp at ht
   subst ht
   simp [Value.resultList] at hr
   subst hr
   simp [Value.okWide, htb, Cell.okWide, Cell.ok]
  | succ j => simp at ht
/-- The cells of a listed array of strings. -/
theorem zhj {P : Program} {w : World} {n : String} {g : Nat} {t e : TypeId} {cs : Array Value} {L : List (List UInt8)} {fuel : Nat} {H : Type} {enc : TypeId × Value → H} {base : Nat} {spare : Nat → Bool} {held : Bool} {q : List MemPlace}
  (hg : P.globalNamed n = some g) (hv : w.var? P n = some cs) (ht : P.underlying t = some (.array L.length e)) (he : P.underlying e = some .string) (hc : P.cellsOf e = 1)
  (hd : DataW.trod enc P w base spare held fuel t cs.toList = some (.agg (L.map fun b => .lit (.string b)), q)) : ∀ (j : Nat) (b : List UInt8), L[j]? = some b → w.cell? ⟨g, j, none⟩ = some (.string ⟨b.toArray⟩) := by
 intro j b hj
 obtain ⟨xs, m1, rfl, hx1, hlen, hn3, hel⟩ := DataW.trod_array ht hd
 have hjl := (List.getElem?_eq_some_iff.1 hj).1
 have h := hel j hjl
 rw [hc, Nat.mul_one] at h
 simp only [Prod.mk.injEq, DataW.agg.injEq] at hx1
 obtain ⟨x, hx⟩ : ∃ x, xs[j]? = some x := ⟨_, List.getElem?_eq_getElem (by omega)⟩
 rw [hx] at h
 obtain ⟨s, h1, h2, _⟩ := DataW.trod_string he h
 have h3 : (L.map fun b => (DataW.lit (.string b) : DataW H))[j]? = (xs.map (·.1))[j]? := by rw [hx1.1]
 rw [List.getElem?_map, List.getElem?_map, hj, hx, h2] at h3
 simp only [Option.map_some, Option.some.injEq, DataW.lit.injEq, Lit.string.injEq] at h3
 have h4 : (cs.toList.drop j)[0]? = some (.string s) := by
  have : ((cs.toList.drop j).take 1)[0]? = some (.string s) := by rw [h1]; rfl
  simpa [List.getElem?_take] using this
 rw [List.getElem?_drop, Nat.add_zero] at h4
 rw [World.var?_cell hg hv j]
 rw [Array.getElem?_toList] at h4
 rw [h4, h3]
end Go.VL
namespace Go.Proofs.YtepiegcjnaohjaaGreatDoor
open Go Go.VL
@[simp] theorem ld3 : zeA Tryz.prog 3 = some none := by kernel_rfl
@[simp] theorem ts3 : tsz Tryz.prog 3 = some 1 := by kernel_rfl
@[simp] theorem na3 : zee Tryz.prog 3 = true := by kernel_rfl
@[simp] theorem sf3 : stT Tryz.prog 3 = none := by kernel_rfl
@[simp] theorem io3 : zh6 Tryz.prog 3 = some .i64 := by kernel_rfl
@[simp] theorem zc3 : zdo Tryz.prog 3 = some [.int .i64 0] := by kernel_rfl
@[simp] theorem sl3 : zna Tryz.prog 3 = false := by kernel_rfl
@[simp] theorem ld4 : zeA Tryz.prog 4 = some none := by kernel_rfl
@[simp] theorem ts4 : tsz Tryz.prog 4 = some 1 := by kernel_rfl
@[simp] theorem ld9 : zeA Tryz.prog 9 = some none := by kernel_rfl
@[simp] theorem ts9 : tsz Tryz.prog 9 = some 1 := by kernel_rfl
@[simp] theorem na9 : zee Tryz.prog 9 = true := by kernel_rfl
@[simp] theorem st9 : zg2 Tryz.prog 9 = true := by kernel_rfl
@[simp] theorem zc9 : zdo Tryz.prog 9 = some [.string ⟨#[]⟩] := by kernel_rfl
@[simp] theorem sl9 : zna Tryz.prog 9 = false := by kernel_rfl
@[simp] theorem zt7 : zi8 Tryz.prog 20 = true := by kernel_rfl
@[simp] theorem ztz : zeA Tryz.prog 26 = some none := by kernel_rfl
@[simp] theorem ztj : tsz Tryz.prog 26 = some 1 := by kernel_rfl
@[simp] theorem ztp : zee Tryz.prog 26 = true := by kernel_rfl
@[simp] theorem ztm : stT Tryz.prog 26 = none := by kernel_rfl
@[simp] theorem ztk : zna Tryz.prog 26 = true := by kernel_rfl
@[simp] theorem zp6 : zha Tryz.prog 26 = some (3, 1) := by kernel_rfl
@[simp] theorem ztG : zec Tryz.prog 26 = some (3, 1, 8, [.int .i64 0]) := by kernel_rfl
@[simp] theorem zty : zeA Tryz.prog 34 = some none := by kernel_rfl
@[simp] theorem zti : tsz Tryz.prog 34 = some 1 := by kernel_rfl
@[simp] theorem ztb : zdo Tryz.prog 34 = some [.int .i64 0] := by kernel_rfl
@[simp] theorem ztB : zha Tryz.prog 47 = some (49, 4) := by kernel_rfl
@[simp] theorem ztF : zec Tryz.prog 47 = some (49, 4, 32, [.int .i64 0, .int .i64 0, .bool false, .int .i64 0]) := by kernel_rfl
@[simp] theorem ztx : zeA Tryz.prog 49 = some (some 4) := by kernel_rfl
@[simp] theorem zth : tsz Tryz.prog 49 = some 4 := by kernel_rfl
@[simp] theorem zta : zdo Tryz.prog 49 = some [.int .i64 0, .int .i64 0, .bool false, .int .i64 0] := by kernel_rfl
@[simp] theorem zq3 : zaX Tryz.prog 49 1 = some (1, 1, none) := by kernel_rfl
@[simp] theorem zq2 : zaX Tryz.prog 49 2 = some (2, 1, none) := by kernel_rfl
@[simp] theorem zq1 : zaX Tryz.prog 49 3 = some (3, 1, none) := by kernel_rfl
@[simp] theorem zs5 : zp Tryz.prog 49 = some ([.int .i64 0, .int .i64 0, .bool false, .int .i64 0], [(0, 1), (1, 1), (2, 1), (3, 1)]) := by kernel_rfl
@[simp] theorem ztw : zeA Tryz.prog 52 = some none := by kernel_rfl
@[simp] theorem ztg : tsz Tryz.prog 52 = some 1 := by kernel_rfl
@[simp] theorem zto : zee Tryz.prog 52 = true := by kernel_rfl
@[simp] theorem zrC : zha Tryz.prog 52 = some (137, 6) := by kernel_rfl
@[simp] theorem ztE : zec Tryz.prog 52 = some (137, 6, 80, [.string ⟨#[]⟩, .int .i64 0, .int .i64 0, .int .i64 0, .string ⟨#[]⟩, .slice none 0 0]) := by kernel_rfl
@[simp] theorem ztv : zeA Tryz.prog 53 = some none := by kernel_rfl
@[simp] theorem zrB : zha Tryz.prog 53 = some (55, 5) := by kernel_rfl
@[simp] theorem ztD : zec Tryz.prog 53 = some (55, 5, 64, [.int .i64 0, .int .i64 0, .int .i64 0, .string ⟨#[]⟩, .slice none 0 0]) := by kernel_rfl
@[simp] theorem ztu : zeA Tryz.prog 55 = some (some 5) := by kernel_rfl
@[simp] theorem ztf : tsz Tryz.prog 55 = some 5 := by kernel_rfl
@[simp] theorem zrp : stT Tryz.prog 55 = some [3, 3, 3, 9, 53] := by kernel_rfl
@[simp] theorem zs9 : zdo Tryz.prog 55 = some [.int .i64 0, .int .i64 0, .int .i64 0, .string ⟨#[]⟩, .slice none 0 0] := by kernel_rfl
@[simp] theorem zq0 : zaX Tryz.prog 55 0 = some (0, 1, none) := by kernel_rfl
@[simp] theorem zqZ : zaX Tryz.prog 55 1 = some (1, 1, none) := by kernel_rfl
@[simp] theorem zqY : zaX Tryz.prog 55 2 = some (2, 1, none) := by kernel_rfl
@[simp] theorem zqX : zaX Tryz.prog 55 3 = some (3, 1, none) := by kernel_rfl
@[simp] theorem zqW : zaX Tryz.prog 55 4 = some (4, 1, none) := by kernel_rfl
@[simp] theorem zs4 : zp Tryz.prog 55 = some ([.int .i64 0, .int .i64 0, .int .i64 0, .string ⟨#[]⟩, .slice none 0 0], [(0, 1), (1, 1), (2, 1), (3, 1), (4, 1)]) := by kernel_rfl
@[simp] theorem ztt : zeA Tryz.prog 57 = some (some 37) := by kernel_rfl
@[simp] theorem zte : tsz Tryz.prog 57 = some 37 := by kernel_rfl
@[simp] theorem zqn : stT Tryz.prog 57 = some [3, 3, 3, 3, 3, 3, 4, 3, 3, 3, 3, 52, 55, 55, 55, 55, 55] := by kernel_rfl
@[simp] theorem zs8 : zdo Tryz.prog 57 = some [.int .i64 0, .int .i64 0, .int .i64 0, .int .i64 0, .int .i64 0, .int .i64 0, .bool false, .int .i64 0, .int .i64 0, .int .i64 0, .int .i64 0, .slice none 0 0, .int .i64 0, .int .i64 0, .int .i64 0, .string ⟨#[]⟩, .slice none 0 0, .int .i64 0, .int .i64 0, .int .i64 0, .string ⟨#[]⟩, .slice none 0 0, .int .i64 0, .int .i64 0, .int .i64 0, .string ⟨#[]⟩, .slice none 0 0, .int .i64 0, .int .i64 0, .int .i64 0, .string ⟨#[]⟩, .slice none 0 0, .int .i64 0, .int .i64 0, .int .i64 0, .string ⟨#[]⟩, .slice none 0 0] := by kernel_rfl
@[simp] theorem zqV : zaX Tryz.prog 57 0 = some (0, 1, none) := by kernel_rfl
@[simp] theorem zqU : zaX Tryz.prog 57 1 = some (1, 1, none) := by kernel_rfl
@[simp] theorem zqT : zaX Tryz.prog 57 2 = some (2, 1, none) := by kernel_rfl
@[simp] theorem zqS : zaX Tryz.prog 57 3 = some (3, 1, none) := by kernel_rfl
@[simp] theorem zqR : zaX Tryz.prog 57 4 = some (4, 1, none) := by kernel_rfl
@[simp] theorem zqQ : zaX Tryz.prog 57 5 = some (5, 1, none) := by kernel_rfl
@[simp] theorem zqP : zaX Tryz.prog 57 6 = some (6, 1, none) := by kernel_rfl
@[simp] theorem zqO : zaX Tryz.prog 57 7 = some (7, 1, none) := by kernel_rfl
@[simp] theorem zqN : zaX Tryz.prog 57 8 = some (8, 1, none) := by kernel_rfl
@[simp] theorem zqM : zaX Tryz.prog 57 9 = some (9, 1, none) := by kernel_rfl
@[simp] theorem zpN : zaX Tryz.prog 57 10 = some (10, 1, none) := by kernel_rfl
@[simp] theorem zpM : zaX Tryz.prog 57 11 = some (11, 1, none) := by kernel_rfl
@[simp] theorem zpL : zaX Tryz.prog 57 12 = some (12, 5, some 5) := by kernel_rfl
@[simp] theorem zpK : zaX Tryz.prog 57 13 = some (17, 5, some 5) := by kernel_rfl
@[simp] theorem zpJ : zaX Tryz.prog 57 14 = some (22, 5, some 5) := by kernel_rfl
@[simp] theorem zpI : zaX Tryz.prog 57 15 = some (27, 5, some 5) := by kernel_rfl
@[simp] theorem zpH : zaX Tryz.prog 57 16 = some (32, 5, some 5) := by kernel_rfl
@[simp] theorem zs3 : zp Tryz.prog 57 = some ([.int .i64 0, .int .i64 0, .int .i64 0, .int .i64 0, .int .i64 0, .int .i64 0, .bool false, .int .i64 0, .int .i64 0, .int .i64 0, .int .i64 0, .slice none 0 0, .int .i64 0, .int .i64 0, .int .i64 0, .string ⟨#[]⟩, .slice none 0 0, .int .i64 0, .int .i64 0, .int .i64 0, .string ⟨#[]⟩, .slice none 0 0, .int .i64 0, .int .i64 0, .int .i64 0, .string ⟨#[]⟩, .slice none 0 0, .int .i64 0, .int .i64 0, .int .i64 0, .string ⟨#[]⟩, .slice none 0 0, .int .i64 0, .int .i64 0, .int .i64 0, .string ⟨#[]⟩, .slice none 0 0], [(0, 1), (1, 1), (2, 1), (3, 1), (4, 1), (5, 1), (6, 1), (7, 1), (8, 1), (9, 1), (10, 1), (11, 1), (12, 5), (17, 5), (22, 5), (27, 5), (32, 5)]) := by kernel_rfl
@[simp] theorem ztA : zha Tryz.prog 68 = some (9, 1) := by kernel_rfl
@[simp] theorem ztC : zec Tryz.prog 68 = some (9, 1, 16, [.string ⟨#[]⟩]) := by kernel_rfl
@[simp] theorem zts : zeA Tryz.prog 82 = some none := by kernel_rfl
@[simp] theorem zrA : zha Tryz.prog 82 = some (279, 3) := by kernel_rfl
@[simp] theorem ztr : zeA Tryz.prog 84 = some (some 13) := by kernel_rfl
@[simp] theorem ztd : tsz Tryz.prog 84 = some 13 := by kernel_rfl
@[simp] theorem zqm : stT Tryz.prog 84 = some [3, 3, 3, 26, 3, 3, 3, 3, 3, 3, 26, 82, 9] := by kernel_rfl
@[simp] theorem zs7 : zdo Tryz.prog 84 = some [.int .i64 0, .int .i64 0, .int .i64 0, .slice none 0 0, .int .i64 0, .int .i64 0, .int .i64 0, .int .i64 0, .int .i64 0, .int .i64 0, .slice none 0 0, .slice none 0 0, .string ⟨#[]⟩] := by kernel_rfl
@[simp] theorem zqL : zaX Tryz.prog 84 0 = some (0, 1, none) := by kernel_rfl
@[simp] theorem zqK : zaX Tryz.prog 84 1 = some (1, 1, none) := by kernel_rfl
@[simp] theorem zqJ : zaX Tryz.prog 84 2 = some (2, 1, none) := by kernel_rfl
@[simp] theorem zqI : zaX Tryz.prog 84 3 = some (3, 1, none) := by kernel_rfl
@[simp] theorem zqH : zaX Tryz.prog 84 4 = some (4, 1, none) := by kernel_rfl
@[simp] theorem zqG : zaX Tryz.prog 84 5 = some (5, 1, none) := by kernel_rfl
@[simp] theorem zqF : zaX Tryz.prog 84 6 = some (6, 1, none) := by kernel_rfl
@[simp] theorem zqE : zaX Tryz.prog 84 7 = some (7, 1, none) := by kernel_rfl
@[simp] theorem zqD : zaX Tryz.prog 84 8 = some (8, 1, none) := by kernel_rfl
@[simp] theorem zqC : zaX Tryz.prog 84 9 = some (9, 1, none) := by kernel_rfl
@[simp] theorem zpG : zaX Tryz.prog 84 10 = some (10, 1, none) := by kernel_rfl
@[simp] theorem zpF : zaX Tryz.prog 84 11 = some (11, 1, none) := by kernel_rfl
@[simp] theorem zpE : zaX Tryz.prog 84 12 = some (12, 1, none) := by kernel_rfl
@[simp] theorem zs2 : zp Tryz.prog 84 = some ([.int .i64 0, .int .i64 0, .int .i64 0, .slice none 0 0, .int .i64 0, .int .i64 0, .int .i64 0, .int .i64 0, .int .i64 0, .int .i64 0, .slice none 0 0, .slice none 0 0, .string ⟨#[]⟩], [(0, 1), (1, 1), (2, 1), (3, 1), (4, 1), (5, 1), (6, 1), (7, 1), (8, 1), (9, 1), (10, 1), (11, 1), (12, 1)]) := by kernel_rfl
@[simp] theorem ztn : zee Tryz.prog 85 = true := by kernel_rfl
@[simp] theorem ztl : stT Tryz.prog 85 = none := by kernel_rfl
@[simp] theorem zrz : zha Tryz.prog 85 = some (93, 4) := by kernel_rfl
@[simp] theorem ztq : zeA Tryz.prog 89 = some (some 12) := by kernel_rfl
@[simp] theorem ztc : tsz Tryz.prog 89 = some 12 := by kernel_rfl
@[simp] theorem zs6 : zdo Tryz.prog 89 = some [.int .i64 0, .int .i64 0, .int .i64 0, .int .i64 0, .int .i64 0, .int .i64 0, .int .i64 0, .slice none 0 0, .slice none 0 0, .int .i64 0, .int .i64 0, .int .i64 0] := by kernel_rfl
@[simp] theorem zqB : zaX Tryz.prog 89 0 = some (0, 1, none) := by kernel_rfl
@[simp] theorem zqA : zaX Tryz.prog 89 2 = some (2, 1, none) := by kernel_rfl
@[simp] theorem zqz : zaX Tryz.prog 89 3 = some (3, 1, none) := by kernel_rfl
@[simp] theorem zqy : zaX Tryz.prog 89 6 = some (6, 1, none) := by kernel_rfl
@[simp] theorem zqx : zaX Tryz.prog 89 7 = some (7, 1, none) := by kernel_rfl
@[simp] theorem zqw : zaX Tryz.prog 89 8 = some (8, 1, none) := by kernel_rfl
@[simp] theorem zqv : zaX Tryz.prog 89 9 = some (9, 1, none) := by kernel_rfl
@[simp] theorem zpD : zaX Tryz.prog 89 10 = some (10, 1, none) := by kernel_rfl
@[simp] theorem zpC : zaX Tryz.prog 89 11 = some (11, 1, none) := by kernel_rfl
@[simp] theorem zs1 : zp Tryz.prog 89 = some ([.int .i64 0, .int .i64 0, .int .i64 0, .int .i64 0, .int .i64 0, .int .i64 0, .int .i64 0, .slice none 0 0, .slice none 0 0, .int .i64 0, .int .i64 0, .int .i64 0], [(0, 1), (1, 1), (2, 1), (3, 1), (4, 1), (5, 1), (6, 1), (7, 1), (8, 1), (9, 1), (10, 1), (11, 1)]) := by kernel_rfl
@[simp] theorem zro : stT Tryz.prog 93 = some [3, 3, 3, 4] := by kernel_rfl
@[simp] theorem zqu : zaX Tryz.prog 93 0 = some (0, 1, none) := by kernel_rfl
@[simp] theorem zqt : zaX Tryz.prog 93 1 = some (1, 1, none) := by kernel_rfl
@[simp] theorem zqs : zaX Tryz.prog 93 2 = some (2, 1, none) := by kernel_rfl
@[simp] theorem zqr : zaX Tryz.prog 93 3 = some (3, 1, none) := by kernel_rfl
@[simp] theorem zry : zeA Tryz.prog 114 = some none := by kernel_rfl
@[simp] theorem zrx : zeA Tryz.prog 137 = some (some 6) := by kernel_rfl
@[simp] theorem zrn : tsz Tryz.prog 137 = some 6 := by kernel_rfl
@[simp] theorem zpv : stT Tryz.prog 137 = some [9, 55] := by kernel_rfl
@[simp] theorem zrh : zdo Tryz.prog 137 = some [.string ⟨#[]⟩, .int .i64 0, .int .i64 0, .int .i64 0, .string ⟨#[]⟩, .slice none 0 0] := by kernel_rfl
@[simp] theorem zp3 : zaX Tryz.prog 137 0 = some (0, 1, none) := by kernel_rfl
@[simp] theorem zp2 : zaX Tryz.prog 137 1 = some (1, 5, some 5) := by kernel_rfl
@[simp] theorem zrb : zp Tryz.prog 137 = some ([.string ⟨#[]⟩, .int .i64 0, .int .i64 0, .int .i64 0, .string ⟨#[]⟩, .slice none 0 0], [(0, 1), (1, 5)]) := by kernel_rfl
@[simp] theorem zrw : zeA Tryz.prog 182 = some none := by kernel_rfl
@[simp] theorem zrE : zha Tryz.prog 182 = some (201, 4) := by kernel_rfl
@[simp] theorem zrG : zec Tryz.prog 182 = some (201, 4, 40, [.int .i64 0, .string ⟨#[]⟩, .int .i64 0, .int .i64 0]) := by kernel_rfl
@[simp] theorem zrr : zdB Tryz.prog 190 = some ((.i .i64), false, [.bool false]) := by kernel_rfl
@[simp] theorem zp1 : zaX Tryz.prog 192 0 = some (0, 1, none) := by kernel_rfl
@[simp] theorem zp0 : zaX Tryz.prog 192 1 = some (1, 1, none) := by kernel_rfl
@[simp] theorem zra : zp Tryz.prog 192 = some ([.slice none 0 0, .int .i64 0], [(0, 1), (1, 1)]) := by kernel_rfl
@[simp] theorem zrm : tsz Tryz.prog 194 = some 2 := by kernel_rfl
@[simp] theorem zrq : zki Tryz.prog 194 = true := by kernel_rfl
@[simp] theorem zrg : zdo Tryz.prog 194 = some [.int .i64 0, .int .i64 0] := by kernel_rfl
@[simp] theorem zpZ : zaX Tryz.prog 194 0 = some (0, 1, none) := by kernel_rfl
@[simp] theorem zpY : zaX Tryz.prog 194 1 = some (1, 1, none) := by kernel_rfl
@[simp] theorem zq9 : zp Tryz.prog 194 = some ([.int .i64 0, .int .i64 0], [(0, 1), (1, 1)]) := by kernel_rfl
@[simp] theorem zrv : zeA Tryz.prog 201 = some (some 4) := by kernel_rfl
@[simp] theorem zrl : tsz Tryz.prog 201 = some 4 := by kernel_rfl
@[simp] theorem zrf : zdo Tryz.prog 201 = some [.int .i64 0, .string ⟨#[]⟩, .int .i64 0, .int .i64 0] := by kernel_rfl
@[simp] theorem zpX : zaX Tryz.prog 201 0 = some (0, 1, none) := by kernel_rfl
@[simp] theorem zpW : zaX Tryz.prog 201 1 = some (1, 1, none) := by kernel_rfl
@[simp] theorem zpV : zaX Tryz.prog 201 2 = some (2, 1, none) := by kernel_rfl
@[simp] theorem zpU : zaX Tryz.prog 201 3 = some (3, 1, none) := by kernel_rfl
@[simp] theorem zq8 : zp Tryz.prog 201 = some ([.int .i64 0, .string ⟨#[]⟩, .int .i64 0, .int .i64 0], [(0, 1), (1, 1), (2, 1), (3, 1)]) := by kernel_rfl
@[simp] theorem zru : zeA Tryz.prog 209 = some (some 3) := by kernel_rfl
@[simp] theorem zrk : tsz Tryz.prog 209 = some 3 := by kernel_rfl
@[simp] theorem zre : zdo Tryz.prog 209 = some [.string ⟨#[]⟩, .int .i64 0, .int .i64 0] := by kernel_rfl
@[simp] theorem zpT : zaX Tryz.prog 209 0 = some (0, 1, none) := by kernel_rfl
@[simp] theorem zpS : zaX Tryz.prog 209 1 = some (1, 1, none) := by kernel_rfl
@[simp] theorem zpR : zaX Tryz.prog 209 2 = some (2, 1, none) := by kernel_rfl
@[simp] theorem zq7 : zp Tryz.prog 209 = some ([.string ⟨#[]⟩, .int .i64 0, .int .i64 0], [(0, 1), (1, 1), (2, 1)]) := by kernel_rfl
@[simp] theorem zrD : zha Tryz.prog 210 = some (209, 3) := by kernel_rfl
@[simp] theorem zrF : zec Tryz.prog 210 = some (209, 3, 32, [.string ⟨#[]⟩, .int .i64 0, .int .i64 0]) := by kernel_rfl
@[simp] theorem zsT : zos Tryz.prog 275 = some 21 := by kernel_rfl
@[simp] theorem zrj : tsz Tryz.prog 276 = some 8 := by kernel_rfl
@[simp] theorem zsS : zos Tryz.prog 276 = some 8 := by kernel_rfl
@[simp] theorem zrd : zdo Tryz.prog 276 = some [.bool false, .bool false, .bool false, .bool false, .bool false, .bool false, .bool false, .bool false] := by kernel_rfl
@[simp] theorem zrt : zeA Tryz.prog 279 = some (some 3) := by kernel_rfl
@[simp] theorem zri : tsz Tryz.prog 279 = some 3 := by kernel_rfl
@[simp] theorem zpu : stT Tryz.prog 279 = some [3, 3, 3] := by kernel_rfl
@[simp] theorem zrc : zdo Tryz.prog 279 = some [.int .i64 0, .int .i64 0, .int .i64 0] := by kernel_rfl
@[simp] theorem zpQ : zaX Tryz.prog 279 0 = some (0, 1, none) := by kernel_rfl
@[simp] theorem zpP : zaX Tryz.prog 279 1 = some (1, 1, none) := by kernel_rfl
@[simp] theorem zpO : zaX Tryz.prog 279 2 = some (2, 1, none) := by kernel_rfl
@[simp] theorem zrs : zeA Tryz.prog 291 = some (some 11) := by kernel_rfl
@[simp] theorem zsR : zos Tryz.prog 291 = some 11 := by kernel_rfl
@[simp] theorem zq6 : zp Tryz.prog 276 = some ([.bool false, .bool false, .bool false, .bool false, .bool false, .bool false, .bool false, .bool false], [(0, 1), (1, 1), (2, 1), (3, 1), (4, 1), (5, 1), (6, 1), (7, 1)]) := by kernel_rfl
@[simp] theorem zt6 : zal Tryz.prog 25 = true := by kernel_rfl
@[simp] theorem zt5 : zal Tryz.prog 37 = true := by kernel_rfl
@[simp] theorem zt4 : zal Tryz.prog 38 = true := by kernel_rfl
@[simp] theorem zt3 : zal Tryz.prog 39 = true := by kernel_rfl
@[simp] theorem zt2 : zal Tryz.prog 40 = true := by kernel_rfl
@[simp] theorem zt1 : zal Tryz.prog 41 = true := by kernel_rfl
@[simp] theorem zt0 : zal Tryz.prog 42 = true := by kernel_rfl
@[simp] theorem ztZ : zal Tryz.prog 43 = true := by kernel_rfl
@[simp] theorem ztY : zal Tryz.prog 44 = true := by kernel_rfl
@[simp] theorem ztX : zal Tryz.prog 45 = true := by kernel_rfl
@[simp] theorem ztW : zal Tryz.prog 46 = true := by kernel_rfl
@[simp] theorem ztV : zal Tryz.prog 50 = true := by kernel_rfl
@[simp] theorem ztU : zal Tryz.prog 51 = true := by kernel_rfl
@[simp] theorem ztT : zal Tryz.prog 58 = true := by kernel_rfl
@[simp] theorem ztS : zal Tryz.prog 60 = true := by kernel_rfl
@[simp] theorem ztR : zal Tryz.prog 61 = true := by kernel_rfl
@[simp] theorem ztQ : zal Tryz.prog 64 = true := by kernel_rfl
@[simp] theorem ztP : zal Tryz.prog 72 = true := by kernel_rfl
@[simp] theorem ztO : zal Tryz.prog 74 = true := by kernel_rfl
@[simp] theorem ztN : zal Tryz.prog 82 = true := by kernel_rfl
@[simp] theorem ztM : zal Tryz.prog 89 = true := by kernel_rfl
@[simp] theorem ztL : zal Tryz.prog 90 = true := by kernel_rfl
@[simp] theorem ztK : zal Tryz.prog 96 = true := by kernel_rfl
@[simp] theorem ztJ : zal Tryz.prog 97 = true := by kernel_rfl
@[simp] theorem ztI : zal Tryz.prog 98 = true := by kernel_rfl
@[simp] theorem ztH : zal Tryz.prog 99 = true := by kernel_rfl
@[simp] theorem zsM : zal Tryz.prog 100 = true := by kernel_rfl
@[simp] theorem zsL : zal Tryz.prog 101 = true := by kernel_rfl
@[simp] theorem zsK : zal Tryz.prog 102 = true := by kernel_rfl
@[simp] theorem zsJ : zal Tryz.prog 103 = true := by kernel_rfl
@[simp] theorem zsI : zal Tryz.prog 104 = true := by kernel_rfl
@[simp] theorem zsH : zal Tryz.prog 105 = true := by kernel_rfl
@[simp] theorem zsG : zal Tryz.prog 107 = true := by kernel_rfl
@[simp] theorem zsF : zal Tryz.prog 120 = true := by kernel_rfl
@[simp] theorem zsE : zal Tryz.prog 121 = true := by kernel_rfl
@[simp] theorem zsD : zal Tryz.prog 122 = true := by kernel_rfl
@[simp] theorem zsC : zal Tryz.prog 123 = true := by kernel_rfl
@[simp] theorem zsB : zal Tryz.prog 124 = true := by kernel_rfl
@[simp] theorem zsA : zal Tryz.prog 125 = true := by kernel_rfl
@[simp] theorem zsz : zal Tryz.prog 126 = true := by kernel_rfl
@[simp] theorem zsy : zal Tryz.prog 127 = true := by kernel_rfl
@[simp] theorem zsx : zal Tryz.prog 128 = true := by kernel_rfl
@[simp] theorem zsw : zal Tryz.prog 129 = true := by kernel_rfl
@[simp] theorem zsv : zal Tryz.prog 130 = true := by kernel_rfl
@[simp] theorem zsu : zal Tryz.prog 131 = true := by kernel_rfl
@[simp] theorem zst : zal Tryz.prog 139 = true := by kernel_rfl
@[simp] theorem zss : zal Tryz.prog 140 = true := by kernel_rfl
@[simp] theorem zsr : zal Tryz.prog 147 = true := by kernel_rfl
@[simp] theorem zsq : zal Tryz.prog 150 = true := by kernel_rfl
@[simp] theorem zsp : zal Tryz.prog 151 = true := by kernel_rfl
@[simp] theorem zso : zal Tryz.prog 165 = true := by kernel_rfl
@[simp] theorem zsn : zal Tryz.prog 166 = true := by kernel_rfl
@[simp] theorem zsm : zal Tryz.prog 167 = true := by kernel_rfl
@[simp] theorem zsl : zal Tryz.prog 168 = true := by kernel_rfl
@[simp] theorem zsk : zal Tryz.prog 169 = true := by kernel_rfl
@[simp] theorem zsj : zal Tryz.prog 170 = true := by kernel_rfl
@[simp] theorem zsi : zal Tryz.prog 171 = true := by kernel_rfl
@[simp] theorem zsh : zal Tryz.prog 172 = true := by kernel_rfl
@[simp] theorem zsg : zal Tryz.prog 173 = true := by kernel_rfl
@[simp] theorem zsf : zal Tryz.prog 174 = true := by kernel_rfl
@[simp] theorem zse : zal Tryz.prog 175 = true := by kernel_rfl
@[simp] theorem zsd : zal Tryz.prog 176 = true := by kernel_rfl
@[simp] theorem zsc : zal Tryz.prog 177 = true := by kernel_rfl
@[simp] theorem zsb : zal Tryz.prog 178 = true := by kernel_rfl
@[simp] theorem zsa : zal Tryz.prog 196 = true := by kernel_rfl
@[simp] theorem zr9 : zal Tryz.prog 197 = true := by kernel_rfl
@[simp] theorem zr8 : zal Tryz.prog 198 = true := by kernel_rfl
@[simp] theorem zr7 : zal Tryz.prog 199 = true := by kernel_rfl
@[simp] theorem zr6 : zal Tryz.prog 200 = true := by kernel_rfl
@[simp] theorem zr5 : zal Tryz.prog 201 = true := by kernel_rfl
@[simp] theorem zr4 : zal Tryz.prog 202 = true := by kernel_rfl
@[simp] theorem zr3 : zal Tryz.prog 203 = true := by kernel_rfl
@[simp] theorem zr2 : zal Tryz.prog 204 = true := by kernel_rfl
@[simp] theorem zr1 : zal Tryz.prog 213 = true := by kernel_rfl
@[simp] theorem zr0 : zal Tryz.prog 214 = true := by kernel_rfl
@[simp] theorem zrZ : zal Tryz.prog 215 = true := by kernel_rfl
@[simp] theorem zrY : zal Tryz.prog 220 = true := by kernel_rfl
@[simp] theorem zrX : zal Tryz.prog 221 = true := by kernel_rfl
@[simp] theorem zrW : zal Tryz.prog 222 = true := by kernel_rfl
@[simp] theorem zrV : zal Tryz.prog 223 = true := by kernel_rfl
@[simp] theorem zrU : zal Tryz.prog 224 = true := by kernel_rfl
@[simp] theorem zrT : zal Tryz.prog 225 = true := by kernel_rfl
@[simp] theorem zrS : zal Tryz.prog 226 = true := by kernel_rfl
@[simp] theorem zrR : zal Tryz.prog 244 = true := by kernel_rfl
@[simp] theorem zrQ : zal Tryz.prog 245 = true := by kernel_rfl
@[simp] theorem zrP : zal Tryz.prog 246 = true := by kernel_rfl
@[simp] theorem zrO : zal Tryz.prog 247 = true := by kernel_rfl
@[simp] theorem zrN : zal Tryz.prog 272 = true := by kernel_rfl
@[simp] theorem zrM : zal Tryz.prog 282 = true := by kernel_rfl
@[simp] theorem zrL : zal Tryz.prog 283 = true := by kernel_rfl
@[simp] theorem zrK : zal Tryz.prog 303 = true := by kernel_rfl
end Go.Proofs.YtepiegcjnaohjaaGreatDoor
namespace Go.Proofs
open Go.Shelf
def Tryz.zjm : Go.Shelf.Ren := ⟨fun | 151 => 224 | 152 => 274 | 137 => 298 | 119 => 299 | 224 => 300 | 225 => 301 | 217 => 307 | 266 => 308 | n => n, fun | 9 => 9 | 21 => 21 | 4 => 4 | 3 => 3 | 5 => 5 | 0 => 0 | 46 => 264 | n => n, fun | n => n⟩
theorem Tryz.zow : Go.Proofs.Lays.n151 Tryz.prog Tryz.zjm := {
 mixed := by kernel_rfl
 f119 := Tryz.func299.trans (congrArg some (by kernel_rfl))
 f137 := Tryz.func298.trans (congrArg some (by kernel_rfl))
 f151 := Tryz.func224.trans (congrArg some (by kernel_rfl))
 f152 := Tryz.func274.trans (congrArg some (by kernel_rfl))
 f217 := Tryz.func307.trans (congrArg some (by kernel_rfl))
 f224 := Tryz.func300.trans (congrArg some (by kernel_rfl))
 f225 := Tryz.func301.trans (congrArg some (by kernel_rfl))
 f266 := Tryz.func308.trans (congrArg some (by kernel_rfl))
 t0 := Tryz.underlying0
 a0 := Tryz.isAgg0
 z0 := Tryz.sizeOf0
 v0 := Tryz.zeroValue0
 t3 := Tryz.underlying3
 a3 := Tryz.isAgg3
 z3 := Tryz.sizeOf3
 v3 := Tryz.zeroValue3
 t4 := Tryz.underlying4
 a4 := Tryz.isAgg4
 z4 := Tryz.sizeOf4
 v4 := Tryz.zeroValue4
 t5 := Tryz.underlying5
 a5 := Tryz.isAgg5
 z5 := Tryz.sizeOf5
 v5 := Tryz.zeroValue5
 t9 := Tryz.underlying9
 a9 := Tryz.isAgg9
 z9 := Tryz.sizeOf9
 v9 := Tryz.zeroValue9
 t21 := Tryz.underlying21
 a21 := Tryz.isAgg21
 z21 := Tryz.sizeOf21
 v21 := Tryz.zeroValue21
 t46 := Tryz.underlying264
 a46 := Tryz.isAgg264
 z46 := Tryz.sizeOf264
 v46 := Tryz.zeroValue264 }
open Go.RowKit Go.Lib in
theorem Tryz.strings_ContainsRune_ascii (s : ByteArray) (r : Int) (w : World) (h0 : 0 ≤ r) (h1 : r < 128) :
  Calls Tryz.prog 224 #[.string s, .int .i32 r] w fun e w' => e = .returned (.bool (decide (0 ≤ Lib.indexByte s.data.toList r.toNat.toUInt8))) ∧ w' = w := Any.strings_ContainsRune_ascii Tryz.zow s r w h0 h1
end Go.Proofs
namespace Go.VL
open Go
theorem zmk {P : Program} {k own s a w} (hs : Sim k own s a w) {fop : Operand} {args : Array Operand} {ts : Array TypeId} {ty : TypeId} {f first} (hf : opd s fop = .bnd (.func f) first) (hc : zal P f = true)
  (dst : Option Tmp) (pos : String) (after : Array Edge) (g : Option (Nat × Bool)) :
  ∃ vs, RepL k (first ++ args.toList.map (opd s)) vs ∧ (execOp a.eval { dst, op := .call { callee := .value fop, args, argTypes := ts }, type := ty, pos, after, guard := g }).run P w = .ok (.enter f vs) w := by
 have hr := zaJ hs fop
 rw [hf] at hr
 obtain ⟨cv, hl, hv, hcap⟩ := zla hr
 refine ⟨cv.toArray ++ args.map a.eval, ⟨by simp [hl], fun j d hj => ?_⟩, ?_⟩
 ·by_cases hlt : j < first.length
  ·rw [List.getElem?_append_left hlt] at hj
   have := hcap j d hj
   have e : (cv.toArray ++ args.map a.eval).getD j undef = cv.getD j undef := by
    have hlt2 : j < cv.length := by omega
    simp [Array.getElem?_append, hlt2]
   rw [e]
   exact this
  ·rw [List.getElem?_append_right (Nat.le_of_not_lt hlt)] at hj
   have := zdN hs args.toList (j - first.length) d hj
   have e : (cv.toArray ++ args.map a.eval).getD j undef = (args.toList.map a.eval).getD (j - first.length) undef := by
    have hlt2 : ¬ j < cv.length := by omega
    simp [Array.getElem?_append, hlt2, hl]
   rw [e]
   exact this
 ·unfold zal at hc
  split at hc
  ·rename_i fn hfn
   simp at hc
   obtain ⟨hb, hname⟩ := hc
   have hb' : fn.body.isNone = false := by cases hbb : fn.body <;> simp_all
   have hname' : (fn.name == "runtime.NumGoroutine") = false := by simpa using hname
   simp only [execOp]
   simp [resolve, hv, Deferred.ofValue, invoke, callFunc, hfn, hname', hb', hname]
   intro h0
   rw [h0] at hb
   simp at hb
  ·cases hc
/-- A call of a method that came az a value, by what it does to the objects. -/
theorem EffP.zqj {P Γ s k} {fop : Operand} {args : Array Operand} {ts : Array TypeId} {ty : TypeId} {f first dst pos after} {ds : List D} {post : Out → List (Nat × Ob) → Nat → Prop}
  (hf : opd s fop = .bnd (.func f) first) (hc : zal P f = true) (hds : first ++ args.toList.map (opd s) = ds) (hret : RetX P f ds s.obs s.next post) (hp : zaI dst s)
  (hk : ∀ d obs' nx', s.next ≤ nx' → post (.val d) obs' nx' → k (({ s with obs := obs', next := nx' } : St).put dst d))
  (hx : ∀ ch obs' nx', s.next ≤ nx' → post (.pan ch) obs' nx' → ∃ s2, Wk Γ { s with obs := obs', next := nx' } s2 ∧ Γ.pan ch s2) :
  EffP P Γ { dst, op := .call { callee := .value fop, args, argTypes := ts }, type := ty, pos, after, guard := none } s k := by
 intro K a w hin hs Kont Q hK hP
 obtain ⟨vs, hrep, hrun⟩ := zmk hs (args := args) (ts := ts) (ty := ty) hf hc dst pos after none
 rw [hds] at hrep
 unfold Oper.wp
 rw [hrun]
 refine Calls.mono (hret K Γ.own w vs hs.sat hs.hdr (fun b hb => hin.own_of_ge hb) hrep) ?_
 rintro e w' ⟨r, obs', nx', k', hr, hin', hsat', hhdr', hnx, hpost⟩
 have hle : K.le k' := hin'.le
 have hin2 : In Γ k' w' := hin.step hle (fun b o v e => hin'.memNew b o v e) hin'.os hin'.tape hin'.output hin'.size hin'.block
 have hsim : Sim k' Γ.own ({ s with obs := obs', next := nx' } : St) a w' := ⟨hsat', hs.defers, hs.size, fun x d hx => ⟨(hs.env x d hx).1, (hs.env x d hx).2.mono hle⟩, hhdr'⟩
 cases r with
 | val d =>
  obtain ⟨v, rfl, hr⟩ := hr
  exact hK k' _ w' _ hin2 (hsim.put (by cases dst <;> simp_all [zaI]) hr) (hk d obs' nx' hnx hpost)
 | pan ch =>
  obtain rfl := hr
  obtain ⟨s2, hw, hpn⟩ := hx ch obs' nx' hnx hpost
  obtain ⟨k2, g1, g2⟩ := hw k' a w' hin2 hsim
  exact hP ch k2 a w' s2 g1 g2 hpn
theorem CallP.b_ {P : Program} {Γ : Ctx} {s : St} {k : St → Prop} {dst : Option Tmp} {fop : Operand} {args : List Operand} {f first} {ds : List D} {post : Out → List (Nat × Ob) → Nat → Prop} (hret : RetX P f ds s.obs s.next post)
  (hf : opd s fop = .bnd (.func f) first) (hc : zal P f = true) (hds : first ++ args.map (opd s) = ds) (hp : zaI dst s)
  (hk : ∀ d obs' nx', s.next ≤ nx' → post (.val d) obs' nx' → k (({ s with obs := obs', next := nx' } : St).put dst d))
  (hx : ∀ ch obs' nx', s.next ≤ nx' → post (.pan ch) obs' nx' → ∃ s2, Wk Γ { s with obs := obs', next := nx' } s2 ∧ Γ.pan ch s2) : CallP P Γ fop args dst s k :=
 fun _ _ _ _ => EffP.zqj hf hc hds hret hp hk hx
/-- The same where the caller has no object but the one that is handed over, and nothing panics. -/
theorem CallP.bok {P : Program} {Γ : Ctx} {s : St} {k : St → Prop} {dst : Option Tmp} {fop : Operand} {args : List Operand} {f first} {ds : List D} {j : Nat} {ob ob' : Ob} {d : D}
  (hret : RetX P f ds [(j, ob)] s.next fun r o n => r = .val d ∧ o = [(j, ob')] ∧ n = s.next) (hobs : s.obs = [(j, ob)])
  (hf : opd s fop = .bnd (.func f) first) (hc : zal P f = true) (hds : first ++ args.map (opd s) = ds) (hp : zaI dst s)
  (hk : k (({ s with obs := [(j, ob')], next := s.next } : St).put dst d)) : CallP P Γ fop args dst s k :=
 CallP.b_ (hobs ▸ hret) hf hc hds hp (fun d' o1 nx' _ ⟨h1, h2, h3⟩ => by cases h1; subst h2; subst h3; exact hk) (fun ch o1 nx' _ ⟨h1, _⟩ => by cases h1)
end Go.VL
namespace Go.Proofs.YtepiegcjnaohjaaGreatDoor
open Go Go.VL
abbrev zlS : List (String × DataW Unit) := [("stokvel/lex.signs", Rows.laid_stokvel_lex_signs), ("stokvel/entry.uses", Rows.laid_stokvel_entry_uses)]
theorem zni (os : Os) (args : Array Value) : laidMetH Tryz.prog zlS ((World.doorLaid Tryz.prog 400 os).forCall (fun _ _ => 0) ⟨#[], args, []⟩).memory :=
 laidMetH_of_parts3 (fuel := 8) (laidMet_of_run' 8 (by kernel_rfl) (by kernel_rfl)) (by kernel_rfl) (by kernel_rfl)
/-- The cells of a listed variable, and its end. -/
theorem zl4 {P : Program} {w : World} {n : String} {g : Nat} {cs : Array Value} (hg : P.globalNamed n = some g) (hv : w.var? P n = some cs) :
  (∀ j, j < cs.toList.length → VL.look w g j = some (.val (cs.toList.getD j undef))) ∧ VL.look w g cs.toList.length = some .fin := by
 unfold World.var? at hv
 rw [hg, Option.bind_some] at hv
 split at hv
 ·rename_i cs0 t fr hh
  cases hv
  refine ⟨fun j hj => zdk ?_, ?_⟩
  ·have hj' : j < cs.size := by simpa using hj
   simp [World.cell?, hh, hj', List.getD]
  ·have := zmU hh
   simpa using this
 ·cases hv
theorem zk7 {P : Program} {w : World} {n : String} {g : Nat} {t e : TypeId} {cs : Array Value} {L : List (List UInt8)} {fuel : Nat} {H : Type} {enc : TypeId × Value → H} {base : Nat} {spare : Nat → Bool} {held : Bool} {q : List MemPlace}
  (hg : P.globalNamed n = some g) (hv : w.var? P n = some cs) (ht : P.underlying t = some (.array L.length e)) (he : P.underlying e = some .string) (hc : P.cellsOf e = 1) (hct : P.cellsOf t = L.length)
  (hd : DataW.trod enc P w base spare held fuel t cs.toList = some (.agg (L.map fun b => .lit (.string b)), q)) : cs.toList = L.map fun b => .string ⟨b.toArray⟩ := by
 obtain ⟨xs, m1, rfl, hx1, hlen, hn3, hel⟩ := DataW.trod_array ht hd
 have hcell := zhj hg hv ht he hc hd
 apply List.ext_getElem?
 intro j
 cases hb : L[j]? with
 | none =>
  have := List.getElem?_eq_none_iff.1 hb
  rw [List.getElem?_eq_none (by omega), List.getElem?_map, hb]; rfl
 | some b =>
  have h := hcell j b hb
  rw [World.var?_cell hg hv j] at h
  rw [List.getElem?_map, hb, Array.getElem?_toList, h]; rfl
def zoT : List (List UInt8) := [[61, 61], [59], [44], [61], [60], [43], [45], [42], [47], [40], [41]]
def zps : List (List UInt8) := [[107, 116], [99], [99], [99, 119, 110, 109], [110, 114], [119, 115], [119, 109, 115], [99, 119, 109, 114, 115], [99, 110, 109, 114], [110, 114], [99, 110, 109, 116], [114, 116], [110, 114], [114], [99, 116], [119, 110], [99, 109], [99, 107], [110, 109, 114], [110, 109, 114], [110, 109, 114]]
theorem zl3 (W : World) (h : laidMetH Tryz.prog zlS W) : GlobIn (zht W) := by
 rw [MakeChecks.laidMetH_plain _ _ _ (by kernel_rfl)] at h
 obtain ⟨ps, ⟨gc, tc, cc, fc, pc, qc, hgc, htc, hvc, hdc, ⟨gd, td, cd, fd, pd, qd, hgd, htd, hvd, hdd, _⟩, _⟩, _⟩ := h
 obtain rfl : gc = 1 := Option.some.inj (hgc.symm.trans (by kernel_rfl))
 obtain rfl : gd = 0 := Option.some.inj (hgd.symm.trans (by kernel_rfl))
 obtain rfl : tc = 291 := Option.some.inj (htc.symm.trans (by kernel_rfl))
 obtain rfl : td = 275 := Option.some.inj (htd.symm.trans (by kernel_rfl))
 have ec := zk7 (q := pc) (L := zoT) hgc hvc (by kernel_rfl) (e := 9) (by kernel_rfl) (by kernel_rfl) (by kernel_rfl) (hdc.trans (by kernel_rfl))
 have ed := zk7 (q := pd) (L := zps) hgd hvd (by kernel_rfl) (e := 9) (by kernel_rfl) (by kernel_rfl) (by kernel_rfl) (hdd.trans (by kernel_rfl))
 have fc := zl4 hgc hvc
 have fd := zl4 hgd hvd
 rw [ec] at fc
 rw [ed] at fd
 intro p hp
 unfold globs at hp
 simp only [List.mem_cons, List.not_mem_nil, or_false] at hp
 rcases hp with rfl | rfl
 ·first | exact fc | exact fd
 ·first | exact fc | exact fd
end Go.Proofs.YtepiegcjnaohjaaGreatDoor
namespace Go.Proofs.YtepiegcjnaohjaaGreatDoor
open Go Go.VL
attribute [local simp] zcR zb9 evPure opd uOf zaI St.put St.at getK binD binI binS binB nilD aggD zg9 zit lookD lookR zcz rangeS Go.VL.nextD Go.VL.nextS zcB ziI ziG zga zb6 mkV zbi zbh zcK zbg zbs zbB mapEff zdf zf6 Key.kk shiftI arith unD convD zdK loadD cellsAt fieldAddrD fieldD indexAddrD indexSlD arrAddr indexD sliceD cutD lenD minmaxD nilCheckD buildD fillD zbQ zcV zex setAll zcF zer zcs zhq zcq St.add zaU zbO rowsOf zdE zco zax zac zaa zby zdg za8 entry zbq zbv valD zb7 zcp zgE zdc zdd zbU zbJ zaA zaY zbt delAll effD St.effS zc4 zbj zbb zc5 zbk zbd zcm zbc za0 zcn zcW zbP zch zbw zcf zcg zaP mkD zbR zbF zbI zaA zcr D.ids Op.operands Call.operands zbN makeIfD makeFuncD typeAssertD zis zdw zdx zhx zcA IntKind.bits zcC List.take_of_length_le List.range_succ
attribute [local irreducible] V G H HD HD2 zan Eff CallP CallV EndOK Fun Ret FinOK LoopI LoopW EndW
inductive Exp where
 | mk (op n unit : Int) (s : List UInt8) (args : List Exp)
 deriving Inhabited
def Exp.row : Exp → List U
 | .mk op n u s args => [.int .i64 op, .int .i64 n, .int .i64 u, .str s, .sl (args.map fun e => e.row)]
def Exp.op : Exp → Int | .mk op _ _ _ _ => op
def Exp.n : Exp → Int | .mk _ n _ _ _ => n
def Exp.unit : Exp → Int | .mk _ _ u _ _ => u
def Exp.s : Exp → List UInt8 | .mk _ _ _ s _ => s
def Exp.args : Exp → List Exp | .mk _ _ _ _ args => args
theorem Exp.row_eq (e : Exp) : e.row = [.int .i64 e.op, .int .i64 e.n, .int .i64 e.unit, .str e.s, .sl (e.args.map Exp.row)] := by
 cases e with
 | mk op n u s args => rw [Exp.row]; rfl
structure Var where
 name : List UInt8
 unit : Int
 n : Int
 deriving DecidableEq, Inhabited
structure Let where
 name : List UInt8
 body : Exp
 deriving Inhabited
def Var.row (v : Var) : List U := [.str v.name, .int .i64 v.unit, .int .i64 v.n]
def Let.row (l : Let) : List U := .str l.name :: l.body.row
def vars (l : List Var) : U := .sl (l.map Var.row)
def lets (l : List Let) : U := .sl (l.map Let.row)
def zcx (c : UInt8) : Bool := decide (97 ≤ c.toNat) && decide (c.toNat ≤ 122)
def za6 (c : UInt8) : Bool := decide (48 ≤ c.toNat) && decide (c.toNat ≤ 57)
theorem zdl (c : UInt8) : Fun Tryz.prog 220 [.u (.int .u8 c.toNat)] (· = .u (.bool (zcx c))) := by
 unfold zcx
 (refine Fun.of_body Tryz.func220 rfl (by simp) fun Γ hn => ?_); simp only [entry, List.zipIdx_cons, List.zipIdx_nil, List.map_cons, List.map_nil, Nat.zero_add, Tryz.ntmps220]
 repeat' (first
  | (refine zag ?_; simp)
  | (refine zaj ?_; simp)
  | (refine zah ?_; simp)
  | (refine zas ?_; simp only [zan])
  | (refine ⟨fun hc => ?_, fun hc => ?_⟩ <;> (try (exfalso; omega)))
  | fail)
 all_goals
  (refine EndOK.val (.inr rfl) ?_; simp [zaC, zaf, zaw, Tryz.results220])
 all_goals first | omega | (simp; omega) | (rw [Bool.eq_iff_iff]; simp; omega)
theorem zdT (c : UInt8) : Fun Tryz.prog 222 [.u (.int .u8 c.toNat)] (· = .u (.bool (za6 c))) := by
 unfold za6
 (refine Fun.of_body Tryz.func222 rfl (by simp) fun Γ hn => ?_); simp only [entry, List.zipIdx_cons, List.zipIdx_nil, List.map_cons, List.map_nil, Nat.zero_add, Tryz.ntmps222]
 repeat' (first
  | (refine zag ?_; simp)
  | (refine zaj ?_; simp)
  | (refine zah ?_; simp)
  | (refine zas ?_; simp only [zan])
  | (refine ⟨fun hc => ?_, fun hc => ?_⟩ <;> (try (exfalso; omega)))
  | fail)
 all_goals
  (refine EndOK.val (.inr rfl) ?_; simp [zaC, zaf, zaw, Tryz.results222])
 all_goals first | omega | (simp; omega) | (rw [Bool.eq_iff_iff]; simp; omega)
theorem zkW (c : UInt8) : Fun Tryz.prog 221 [.u (.int .u8 c.toNat)] (· = .u (.bool (zcx c || za6 c))) := by
 (refine Fun.of_body Tryz.func221 rfl (by simp) fun Γ hn => ?_); simp only [entry, List.zipIdx_cons, List.zipIdx_nil, List.map_cons, List.map_nil, Nat.zero_add, Tryz.ntmps221]
 repeat' (first
  | (refine zag ?_; simp)
  | (refine zaj ?_; simp)
  | (refine zah ?_; simp)
  | (refine zas ?_; simp only [zan])
  | (refine ⟨fun hc => ?_, fun hc => ?_⟩ <;> (try (exfalso; omega)))
  | (refine CallP.fun_ (zdl c) (by first | rfl | fail) (by first | assumption | (simp; done) | fail) (by first | (simp; done) | (simp; rfl) | fail) (by first | (simp; done) | fail) (fun d hd => ?_); subst hd; (try simp))
  | (refine CallP.fun_ (zdT c) (by first | rfl | fail) (by first | assumption | (simp; done) | fail) (by first | (simp; done) | (simp; rfl) | fail) (by first | (simp; done) | fail) (fun d hd => ?_); subst hd; (try simp))
  | fail)
 all_goals
  (refine EndOK.val (.inr rfl) ?_; simp [zaC, zaf, zaw, Tryz.results221])
 all_goals simp_all
def zb1 (p : UInt8 → Bool) (l : List UInt8) : Nat := (l.takeWhile p).length
theorem zjw {p : UInt8 → Bool} {l : List UInt8} {i : Nat} (h : ∀ c ∈ l.take i, p c = true) (hi : i ≤ l.length) (he : i = l.length ∨ ∃ c, l[i]? = some c ∧ p c = false) : zb1 p l = i := by
 unfold zb1
 induction l generalizing i with
 | nil => simp at hi; simp [hi]
 | cons a l ih =>
  cases i with
  | zero =>
   rcases he with he | ⟨c, h1, h2⟩
   ·simp at he
   ·simp at h1; subst h1; simp [h2]
  | succ i =>
   have ha : p a = true := h a (by simp)
   rw [List.takeWhile_cons, if_pos ha, List.length_cons]
   rw [ih (i := i) (fun c hc => h c (by simp [hc])) (by simpa using hi) (by simpa using he)]
/-- The first place where something holds; -1 without one. -/
def zgx {α : Type} (p : α → Bool) : List α → Int → Int
 | [], _ => -1
 | x :: l, i => if p x = true then i else zgx p l (i + 1)
theorem zg4 {α : Type} {p : α → Bool} {l : List α} {i : Nat} {x : α} {k : Int} (h : ∀ c ∈ l.take i, p c = false) (hx : l[i]? = some x) (hp : p x = true) : zgx p l k = k + i := by
 induction l generalizing i k with
 | nil => simp at hx
 | cons s l ih =>
  cases i with
  | zero => simp at hx; simp [zgx, hx, hp]
  | succ i =>
   rw [zgx, if_neg (by rw [h s (by simp)]; simp), ih (i := i) (fun c hc => h c (by simp [hc])) (by simpa using hx)]
   omega
theorem zeB {α : Type} {p : α → Bool} {l : List α} {k : Int} (h : ∀ c ∈ l, p c = false) : zgx p l k = -1 := by
 induction l generalizing k with
 | nil => rfl
 | cons s l ih => rw [zgx, if_neg (by rw [h s (by simp)]; simp), ih fun c hc => h c (by simp [hc])]
theorem zg5 {α : Type} (p : α → Bool) (l : List α) : ∀ k : Int, 0 ≤ k → (0 ≤ zgx p l k ↔ l.any p = true) := by
 induction l with
 | nil => intro k hk; simp [zgx]
 | cons s l ih =>
  intro k hk
  by_cases h : p s = true
  ·simp [zgx, h, hk]
  ·rw [zgx, if_neg h, ih (k + 1) (by omega)]
   simp [h]
theorem zbE {α : Type} {p : α → Prop} {l : List α} {i : Nat} {x : α} (hx : l[i]? = some x) (h : ∀ c ∈ l.take i, p c) (hp : p x) : ∀ c ∈ l.take (i + 1), p c := by
 obtain ⟨hi, rfl⟩ := List.getElem?_eq_some_iff.1 hx
 rw [List.take_succ_eq_append_getElem hi]
 intro c hc
 rcases List.mem_append.1 hc with hc | hc
 ·exact h c hc
 ·simp at hc; subst hc; exact hp
theorem zev (l : List UInt8) (hl : l.length ≤ 1000000) (f : FuncId) (p : UInt8 → Bool) (hf : ∀ c ∈ l, Fun Tryz.prog f [.u (.int .u8 c.toNat)] (· = .u (.bool (p c)))) (hcl : zal Tryz.prog f = true) :
  Fun Tryz.prog 197 [.u (.str l), .fnc (.func f) []] (· = .u (.int .i64 (zb1 p l))) := by
 (refine Fun.of_body Tryz.func197 rfl (by simp) fun Γ hn => ?_); simp only [entry, List.zipIdx_cons, List.zipIdx_nil, List.map_cons, List.map_nil, Nat.zero_add, Tryz.ntmps197]
 repeat' (first
  | (refine zag ?_; simp)
  | (refine zaj ?_; simp)
  | (refine zah ?_; simp)
  | fail)
 refine zbr (α := { i : Nat // i ≤ l.length ∧ ∀ c ∈ l.take i, p c = true }) [0, 1] (fun i => [(5, .u (.int .i64 i.1))]) (fun i => l.length - i.1) ⟨0, by omega, by simp⟩ ?_ ?_
 ·exact (Wk.env rfl rfl rfl (by simp [wkE, St.lp, zak, zaa, getK] <;> (try (intros; simp_all; done)) <;> (try (intros; omega)) <;> (try grind)))
 rintro ⟨i, hi, hb⟩
 simp [St.lp, St.only, zak, zaa, getK]
 rcases hx : l[i]? with _ | c
 ·have hge : l.length ≤ i := by simpa using hx
  repeat' (first
  | (refine zag ?_; simp [hx])
  | (refine zaj ?_; simp [hx])
  | (refine ⟨by omega, ?_⟩)
  | (refine zah ?_; simp [hx])
  | (refine zai ?_; simp [hx])
  | (refine zas ?_; simp only [zan])
  | (refine zaZ ?_; simp [zan])
  | (intro hc <;> (try (exfalso; omega)))
  | fail)
  (refine EndOK.val (.inr rfl) ?_; simp [zaC, zaf, zaw, Tryz.results197])
  rw [zjw hb hi (.inl (by omega))]
 ·have hlt := (List.getElem?_eq_some_iff.1 hx).1
  have h1 := hf c (List.mem_of_getElem? hx)
  repeat' (first
  | (refine zag ?_; simp [hx])
  | (refine zaj ?_; simp [hx])
  | (refine ⟨by omega, ?_⟩)
  | (refine zah ?_; simp [hx])
  | (refine zai ?_; simp [hx])
  | (refine zau ?_; simp [hx])
  | (refine zas ?_; simp only [zan])
  | (refine zaq ?_; simp only [zan])
  | (refine zaZ ?_; simp [zan])
  | (refine ⟨?_, by omega⟩)
  | (refine ⟨fun hc => ?_, fun hc => ?_⟩ <;> (try (exfalso; omega)))
  | (intro hc <;> (try (exfalso; omega)))
  | (refine CallP.fun_ (h1) (by first | rfl | fail) (by first | assumption | (simp; done) | fail) (by first | (simp [hx]; done) | (simp [hx]; rfl) | fail) (by first | (simp; done) | fail) (fun d hd => ?_); subst hd; (try simp [hx]))
  | fail)
  ·refine LoopW.next ⟨i + 1, by omega, zbE hx hb (by assumption)⟩ (by simp; omega) ?_
   exact (Wk.env rfl rfl rfl (by simp [wkE, St.lp, zak, zaa, getK] <;> (try (intros; simp_all; done)) <;> (try (intros; omega)) <;> (try grind)))
  ·(refine EndOK.val (.inr rfl) ?_; simp [zaC, zaf, zaw, Tryz.results197])
   rw [zjw hb hi (.inr ⟨c, hx, by assumption⟩)]
def zhs (s : List UInt8) : Bool := match s with
 | [] => false
 | c :: _ => zcx c && decide (s.length ≤ 20) && decide (zb1 (fun c => zcx c || za6 c) s = s.length)
theorem zjr (s : List UInt8) : Fun Tryz.prog 167 [.u (.str s)] (· = .u (.bool (zhs s))) := by
 cases s with
 | nil =>
  (refine Fun.of_body Tryz.func167 rfl (by simp) fun Γ hn => ?_); simp only [entry, List.zipIdx_cons, List.zipIdx_nil, List.map_cons, List.map_nil, Nat.zero_add, Tryz.ntmps167]
  repeat' (first
  | (refine zag ?_; simp)
  | (refine zaj ?_; simp)
  | (refine zah ?_; simp)
  | (refine zai ?_; simp)
  | (refine zas ?_; simp only [zan])
  | fail)
  all_goals
   (refine EndOK.val (.inr rfl) ?_; simp [zaC, zaf, zaw, Tryz.results167])
  all_goals simp [zhs]
 | cons c s =>
  by_cases hl : s.length + 1 ≤ 20
  ·have hs := zev (c :: s) (by simp; omega) 221 _ (fun c _ => zkW c) (by simp)
   (refine Fun.of_body Tryz.func167 rfl (by simp) fun Γ hn => ?_); simp only [entry, List.zipIdx_cons, List.zipIdx_nil, List.map_cons, List.map_nil, Nat.zero_add, Tryz.ntmps167]
   repeat' (first
  | (refine zag ?_; simp)
  | (refine zaj ?_; simp)
  | (refine ⟨by omega, ?_⟩)
  | (refine zah ?_; simp)
  | (refine zai ?_; simp)
  | (refine zas ?_; simp only [zan])
  | (refine zaq ?_; simp only [zan])
  | (refine ⟨fun hc => ?_, fun hc => ?_⟩ <;> (try (exfalso; omega)))
  | (intro hc <;> (try (exfalso; omega)))
  | (refine CallP.fun_ (zdl c) (by first | rfl | fail) (by first | assumption | (simp; done) | fail) (by first | (simp; done) | (simp; rfl) | fail) (by first | (simp; done) | fail) (fun d hd => ?_); subst hd; (try simp))
  | (refine CallP.fun_ (hs) (by first | rfl | fail) (by first | assumption | (simp; done) | fail) (by first | (simp; done) | (simp; rfl) | fail) (by first | (simp; done) | fail) (fun d hd => ?_); subst hd; (try simp))
  | fail)
   all_goals
    (refine EndOK.val (.inr rfl) ?_; simp [zaC, zaf, zaw, Tryz.results167])
   all_goals
    simp [zhs, *]
    try omega
  ·(refine Fun.of_body Tryz.func167 rfl (by simp) fun Γ hn => ?_); simp only [entry, List.zipIdx_cons, List.zipIdx_nil, List.map_cons, List.map_nil, Nat.zero_add, Tryz.ntmps167]
   repeat' (first
  | (refine zag ?_; simp)
  | (refine zaj ?_; simp)
  | (refine zah ?_; simp)
  | (refine zai ?_; simp)
  | (refine zas ?_; simp only [zan])
  | (refine ⟨?_, by omega⟩)
  | (refine ⟨fun hc => ?_, fun hc => ?_⟩ <;> (try (exfalso; omega)))
  | (intro hc <;> (try (exfalso; omega)))
  | (refine CallP.fun_ (zdl c) (by first | rfl | fail) (by first | assumption | (simp; done) | fail) (by first | (simp; done) | (simp; rfl) | fail) (by first | (simp; done) | fail) (fun d hd => ?_); subst hd; (try simp))
  | fail)
   all_goals
     (refine EndOK.val (.inr rfl) ?_; simp [zaC, zaf, zaw, Tryz.results167])
   all_goals
     simp [zhs, *]
     try omega
def zn2 (l : List (List UInt8)) : U := .sl (l.map fun s => [.str s])
def zl0 : List (List UInt8) → List UInt8 → Int → Int
 | [], _, _ => -1
 | s :: l, x, i => if x = s then i else zl0 l x (i + 1)
theorem zoh {l : List (List UInt8)} {x : List UInt8} {i : Nat} {k : Int} (h : ∀ c ∈ l.take i, ¬ x = c) (hx : l[i]? = some x) : zl0 l x k = k + i := by
 induction l generalizing i k with
 | nil => simp at hx
 | cons s l ih =>
  cases i with
  | zero => simp at hx; simp [zl0, hx]
  | succ i =>
   rw [zl0, if_neg (h s (by simp)), ih (i := i) (fun c hc => h c (by simp [hc])) (by simpa using hx)]
   omega
theorem zlZ {l : List (List UInt8)} {x : List UInt8} {k : Int} (h : ∀ c ∈ l, ¬ x = c) : zl0 l x k = -1 := by
 induction l generalizing k with
 | nil => rfl
 | cons s l ih => rw [zl0, if_neg (h s (by simp)), ih fun c hc => h c (by simp [hc])]
theorem zky (l : List (List UInt8)) (x : List UInt8) : Fun Tryz.prog 223 [.u (zn2 l), .u (.str x)] (· = .u (.int .i64 (zl0 l x 0))) := by
 (refine Fun.of_body Tryz.func223 rfl (by simp) fun Γ hn => ?_); simp only [entry, List.zipIdx_cons, List.zipIdx_nil, List.map_cons, List.map_nil, Nat.zero_add, Tryz.ntmps223]
 simp only [zn2]
 refine zjl (x := 0) rfl fun hl => ?_
 simp at hl
 repeat' (first
  | (refine zag ?_; simp)
  | (refine zaj ?_; simp)
  | (refine zah ?_; simp)
  | (refine zau ?_; simp)
  | fail)
 refine zbr (α := { i : Nat // i ≤ l.length ∧ ∀ c ∈ l.take i, ¬ x = c }) [0, 1, 7] (fun i => [(8, .u (.int .i64 i.1))]) (fun i => l.length - i.1) ⟨0, by omega, by simp⟩ ?_ ?_
 ·exact (Wk.env rfl rfl rfl (by simp [wkE, St.lp, zak, zaa, getK] <;> (try (intros; simp_all; done)) <;> (try (intros; omega)) <;> (try grind)))
 rintro ⟨i, hi, hb⟩
 simp [St.lp, St.only, zak, zaa, getK]
 rcases hx : l[i]? with _ | c
 ·have hge : l.length ≤ i := by simpa using hx
  repeat' (first
  | (refine zag ?_; simp [hx])
  | (refine zaj ?_; simp [hx])
  | (refine ⟨by omega, ?_⟩)
  | (refine zah ?_; simp [hx])
  | (refine zas ?_; simp only [zan])
  | (refine zaZ ?_; simp [zan])
  | (intro hc <;> (try (exfalso; omega)))
  | fail)
  (refine EndOK.val (.inr rfl) ?_; simp [zaC, zaf, zaw, Tryz.results223])
  rw [List.take_of_length_le hge] at hb
  exact (zlZ hb).symm
 ·have hlt := (List.getElem?_eq_some_iff.1 hx).1
  by_cases hxc : x = c
  ·subst hxc
   repeat' (first
  | (refine zag ?_; simp [hx])
  | (refine zaj ?_; simp [hx])
  | (refine zah ?_; simp [hx])
  | (refine zai ?_; simp [hx])
  | (refine zas ?_; simp only [zan])
  | (refine zaq ?_; simp only [zan])
  | (refine ⟨?_, by omega⟩)
  | (intro hc <;> (try (exfalso; omega)))
  | fail)
   (refine EndOK.val (.inr rfl) ?_; simp [zaC, zaf, zaw, Tryz.results223])
   rw [zoh hb hx]
   omega
  ·repeat' (first
  | (refine zag ?_; simp [hx, hxc])
  | (refine zaj ?_; simp [hx, hxc])
  | (refine ⟨by omega, ?_⟩)
  | (refine zah ?_; simp [hx, hxc])
  | (refine zai ?_; simp [hx, hxc])
  | (refine zap ?_; simp [hx, hxc])
  | (refine zaq ?_; simp only [zan])
  | (refine ⟨?_, by omega⟩)
  | (intro hc <;> (try (exfalso; omega)))
  | fail)
   refine LoopW.next ⟨i + 1, by omega, zbE hx hb hxc⟩ (by simp; omega) ?_
   exact (Wk.env rfl rfl rfl (by simp [wkE, St.lp, zak, zaa, getK] <;> (try (intros; simp_all; done)) <;> (try (intros; omega)) <;> (try grind)))
theorem znc (l : List (List UInt8)) (x : List UInt8) : ∀ k : Int, 0 ≤ k → decide (0 ≤ zl0 l x k) = l.contains x := by
 induction l with
 | nil => intro k hk; simp [zl0]
 | cons s l ih =>
  intro k hk
  by_cases h : x = s
  ·subst h; simp [zl0, hk]
  ·rw [zl0, if_neg h, ih (k + 1) (by omega)]
   simp [h]
theorem zhd (l : List (List UInt8)) (x : List UInt8) : Fun Tryz.prog 168 [.u (zn2 l), .u (.str x)] (· = .u (.bool (l.contains x))) := by
 have h1 := zky l x
 (refine Fun.of_body Tryz.func168 rfl (by simp) fun Γ hn => ?_); simp only [entry, List.zipIdx_cons, List.zipIdx_nil, List.map_cons, List.map_nil, Nat.zero_add, Tryz.ntmps168]
 simp only [zn2] at h1 ⊢
 repeat' (first
  | (refine zag ?_; simp)
  | (refine zaj ?_; simp)
  | (refine zah ?_; simp)
  | (refine zas ?_; simp only [zan])
  | (refine CallP.fun_ (h1) (by first | rfl | fail) (by first | assumption | (simp; done) | fail) (by first | (simp; done) | (simp; rfl) | fail) (by first | (simp; done) | fail) (fun d hd => ?_); subst hd; (try simp))
  | fail)
 (refine EndOK.val (.inr rfl) ?_; simp [zaC, zaf, zaw, Tryz.results168])
 have h2 := znc l x 0 (by omega)
 simpa using h2
def words : List (List UInt8) := [[97, 110, 100], [98, 97, 99, 107, 115], [98, 105, 100, 100, 105, 110, 103], [99, 105, 114, 99, 108, 101], [99, 111, 105, 110, 115], [99, 111, 118, 101, 114], [100, 97, 121, 115], [100, 114, 97, 119], [100, 117, 101], [101, 108, 115, 101], [102, 97, 108, 115, 101], [102, 105, 110, 101], [102, 117, 110, 100], [103, 114, 97, 99, 101], [104, 111, 108, 100], [105, 102], [106, 111, 105, 110], [106, 117, 114, 121], [108, 101, 116], [109, 97, 120], [109, 105, 108, 108, 101], [109, 105, 110], [110, 101, 101, 100], [110, 111, 116], [111, 114], [111, 114, 100, 101, 114], [112, 97, 121], [112, 101, 114], [114, 111, 116, 97, 116, 105, 110, 103], [115, 97, 118, 105, 110, 103], [115, 101, 97, 108, 101, 100], [116, 104, 101, 110], [116, 114, 117, 101], [118, 111, 105, 99, 101, 115], [119, 97, 105, 116]]
set_option maxHeartbeats 4000000 in
set_option maxRecDepth 100000 in
theorem zhJ : Fun Tryz.prog 169 [] (· = .u (zn2 words)) := by
 (refine Fun.of_bodyW Tryz.func169 rfl (by simp) fun Γ hn => ?_); simp only [entry, List.zipIdx_cons, List.zipIdx_nil, List.map_cons, List.map_nil, Nat.zero_add, Tryz.ntmps169]
 simp only [zn2, words, List.map_cons, List.map_nil]
 repeat' (first
  | (refine zag ?_; simp [zbv, zbq])
  | (refine zaj ?_; simp [zbv, zbq])
  | (refine zah ?_; simp [zbv, zbq])
  | (refine zas ?_; simp only [zan])
  | fail)
 (refine EndW.frzN 1 ?_; simp [frzN, frz1, zaE, zaD, St.frz, St.frzS, frzS, fv, za3, za4, za9, zaH, zaz, zay, del, frz, zba])
 refine EndW.here ?_
 (refine EndOK.val (.inr rfl) ?_; simp [zaC, zaf, zaw, Tryz.results169])
def zjG (l : Let) : List U := [.str l.name, .int .i64 l.body.op, .int .i64 l.body.n, .int .i64 l.body.unit, .str l.body.s, .sl (l.body.args.map Exp.row)]
def zoa (l : Let) : D := .u (.agg [.str l.name, .int .i64 l.body.op, .int .i64 l.body.n, .int .i64 l.body.unit, .str l.body.s, .sl (l.body.args.map Exp.row)])
def zgZ (l : List Let) : U := .sl (l.map fun l => [.str l.name, .int .i64 l.body.op, .int .i64 l.body.n, .int .i64 l.body.unit, .str l.body.s, .sl (l.body.args.map Exp.row)])
theorem zkC (l : List (Let)) (f : FuncId) (caps : List U) (p : Let → Bool) (hf : ∀ n ∈ l, Fun Tryz.prog f (zoa n :: caps.map .u) (· = .u (.bool (p n)))) (hcl : zal Tryz.prog f = true)
  (hca : ∀ o, zcp o (caps.map .u) = some (caps.map .u, [])) : Fun Tryz.prog 151 [.u (zgZ l), .fnc (.func f) (caps.map .u)] (· = .u (.int .i64 (zgx p l 0))) := by
 (refine Fun.of_body Tryz.func151 rfl (by simp) fun Γ hn => ?_); simp only [entry, List.zipIdx_cons, List.zipIdx_nil, List.map_cons, List.map_nil, Nat.zero_add, Tryz.ntmps151]
 simp only [zgZ]
 refine zjl (x := 0) rfl fun hl => ?_
 simp at hl
 repeat' (first
  | (refine zag ?_; simp)
  | (refine zaj ?_; simp)
  | (refine zah ?_; simp)
  | (refine zau ?_; simp)
  | fail)
 refine zbr (α := { i : Nat // i ≤ l.length ∧ ∀ c ∈ l.take i, p c = false }) [0, 1, 7] (fun i => [(8, .u (.int .i64 i.1))]) (fun i => l.length - i.1) ⟨0, by omega, by simp⟩ ?_ ?_
 ·exact (Wk.env rfl rfl rfl (by simp [wkE, St.lp, zak, zaa, getK] <;> (try (intros; simp_all; done)) <;> (try (intros; omega)) <;> (try grind)))
 rintro ⟨i, hi, hb⟩
 simp [St.lp, St.only, zak, zaa, getK]
 rcases hx : l[i]? with _ | n
 ·have hge : l.length ≤ i := by simpa using hx
  repeat' (first
  | (refine zag ?_; simp [hx])
  | (refine zaj ?_; simp [hx])
  | (refine ⟨by omega, ?_⟩)
  | (refine zah ?_; simp [hx])
  | (refine zas ?_; simp only [zan])
  | (refine zaZ ?_; simp [zan])
  | (intro hc <;> (try (exfalso; omega)))
  | fail)
  (refine EndOK.val (.inr rfl) ?_; simp [zaC, zaf, zaw, Tryz.results151])
  rw [List.take_of_length_le hge] at hb
  exact (zeB hb).symm
 ·have hlt : i < l.length := (List.getElem?_eq_some_iff.1 hx).1
  have h1 := hf n (List.mem_of_getElem? hx)
  simp only [zoa] at h1
  cases hp : p n
  ·rw [hp] at h1
   repeat' (first
  | (refine zag ?_; simp [hx, hca])
  | (refine zaj ?_; simp [hx, hca])
  | (refine ⟨by omega, ?_⟩)
  | (refine zah ?_; simp [hx, hca])
  | (refine zai ?_; simp [hx, hca])
  | (refine zap ?_; simp [hx, hca])
  | (refine zaq ?_; simp only [zan])
  | (refine ⟨?_, by omega⟩)
  | (intro hc <;> (try (exfalso; omega)))
  | (refine CallP.fun_ (h1) (by first | rfl | fail) (by first | assumption | (simp; done) | fail) (by first | (simp [hx, hca]; done) | (simp [hx, hca]; rfl) | fail) (by first | (simp; done) | fail) (fun d hd => ?_); subst hd; (try simp [hx, hca]))
  | fail)
   refine LoopW.next ⟨i + 1, by omega, zbE hx hb hp⟩ (by simp; omega) ?_
   exact (Wk.env rfl rfl rfl (by simp [wkE, St.lp, zak, zaa, getK] <;> (try (intros; simp_all; done)) <;> (try (intros; omega)) <;> (try grind)))
  ·rw [hp] at h1
   repeat' (first
  | (refine zag ?_; simp [hx, hca])
  | (refine zaj ?_; simp [hx, hca])
  | (refine zah ?_; simp [hx, hca])
  | (refine zai ?_; simp [hx, hca])
  | (refine zas ?_; simp only [zan])
  | (refine zaq ?_; simp only [zan])
  | (refine ⟨?_, by omega⟩)
  | (intro hc <;> (try (exfalso; omega)))
  | (refine CallP.fun_ (h1) (by first | rfl | fail) (by first | assumption | (simp; done) | fail) (by first | (simp [hx, hca]; done) | (simp [hx, hca]; rfl) | fail) (by first | (simp; done) | fail) (fun d hd => ?_); subst hd; (try simp [hx, hca]))
  | fail)
   (refine EndOK.val (.inr rfl) ?_; simp [zaC, zaf, zaw, Tryz.results151])
   rw [zg4 hb hx hp]
   omega
theorem zeI (l : List (Let)) (f : FuncId) (caps : List U) (p : Let → Bool) (hf : ∀ n ∈ l, Fun Tryz.prog f (zoa n :: caps.map .u) (· = .u (.bool (p n)))) (hcl : zal Tryz.prog f = true)
  (hca : ∀ o, zcp o (caps.map .u) = some (caps.map .u, [])) (hcb : ∀ o, zbJ o (caps.map .u) = some (caps, [])) : Fun Tryz.prog 90 [.u (zgZ l), .fnc (.func f) (caps.map .u)] (· = .u (.bool (l.any p))) := by
 have h1 := zkC l f caps p hf hcl hca
 (refine Fun.of_body Tryz.func90 rfl (by simp) fun Γ hn => ?_); simp only [entry, List.zipIdx_cons, List.zipIdx_nil, List.map_cons, List.map_nil, Nat.zero_add, Tryz.ntmps90]
 simp only [zgZ] at h1 ⊢
 repeat' (first
  | (refine zag ?_; simp [hcb])
  | (refine zaj ?_; simp [hcb])
  | (refine zah ?_; simp [hcb])
  | (refine zas ?_; simp only [zan])
  | (refine CallP.fun_ (h1) (by first | rfl | fail) (by first | assumption | (simp; done) | fail) (by first | (simp [hcb]; done) | (simp [hcb]; rfl) | fail) (by first | (simp; done) | fail) (fun d hd => ?_); subst hd; (try simp [hcb]))
  | fail)
 (refine EndOK.val (.inr rfl) ?_; simp [zaC, zaf, zaw, Tryz.results90])
 have h2 := zg5 p l 0 (by omega)
 rw [Bool.eq_iff_iff]
 simpa using h2
def zo4 (n : Int) : D := .u (.int .i64 n)
def zbV (l : List Int) : U := .sl (l.map fun n => [.int .i64 n])
theorem zkD (l : List (Int)) (f : FuncId) (caps : List U) (p : Int → Bool) (hf : ∀ n ∈ l, Fun Tryz.prog f (zo4 n :: caps.map .u) (· = .u (.bool (p n)))) (hcl : zal Tryz.prog f = true)
  (hca : ∀ o, zcp o (caps.map .u) = some (caps.map .u, [])) : Fun Tryz.prog 147 [.u (zbV l), .fnc (.func f) (caps.map .u)] (· = .u (.int .i64 (zgx p l 0))) := by
 (refine Fun.of_body Tryz.func147 rfl (by simp) fun Γ hn => ?_); simp only [entry, List.zipIdx_cons, List.zipIdx_nil, List.map_cons, List.map_nil, Nat.zero_add, Tryz.ntmps147]
 simp only [zbV]
 refine zjl (x := 0) rfl fun hl => ?_
 simp at hl
 repeat' (first
  | (refine zag ?_; simp)
  | (refine zaj ?_; simp)
  | (refine zah ?_; simp)
  | (refine zau ?_; simp)
  | fail)
 refine zbr (α := { i : Nat // i ≤ l.length ∧ ∀ c ∈ l.take i, p c = false }) [0, 1, 7] (fun i => [(8, .u (.int .i64 i.1))]) (fun i => l.length - i.1) ⟨0, by omega, by simp⟩ ?_ ?_
 ·exact (Wk.env rfl rfl rfl (by simp [wkE, St.lp, zak, zaa, getK] <;> (try (intros; simp_all; done)) <;> (try (intros; omega)) <;> (try grind)))
 rintro ⟨i, hi, hb⟩
 simp [St.lp, St.only, zak, zaa, getK]
 rcases hx : l[i]? with _ | n
 ·have hge : l.length ≤ i := by simpa using hx
  repeat' (first
  | (refine zag ?_; simp [hx])
  | (refine zaj ?_; simp [hx])
  | (refine ⟨by omega, ?_⟩)
  | (refine zah ?_; simp [hx])
  | (refine zas ?_; simp only [zan])
  | (refine zaZ ?_; simp [zan])
  | (intro hc <;> (try (exfalso; omega)))
  | fail)
  (refine EndOK.val (.inr rfl) ?_; simp [zaC, zaf, zaw, Tryz.results147])
  rw [List.take_of_length_le hge] at hb
  exact (zeB hb).symm
 ·have hlt : i < l.length := (List.getElem?_eq_some_iff.1 hx).1
  have h1 := hf n (List.mem_of_getElem? hx)
  simp only [zo4] at h1
  cases hp : p n
  ·rw [hp] at h1
   repeat' (first
  | (refine zag ?_; simp [hx, hca])
  | (refine zaj ?_; simp [hx, hca])
  | (refine ⟨by omega, ?_⟩)
  | (refine zah ?_; simp [hx, hca])
  | (refine zai ?_; simp [hx, hca])
  | (refine zap ?_; simp [hx, hca])
  | (refine zaq ?_; simp only [zan])
  | (refine ⟨?_, by omega⟩)
  | (intro hc <;> (try (exfalso; omega)))
  | (refine CallP.fun_ (h1) (by first | rfl | fail) (by first | assumption | (simp; done) | fail) (by first | (simp [hx, hca]; done) | (simp [hx, hca]; rfl) | fail) (by first | (simp; done) | fail) (fun d hd => ?_); subst hd; (try simp [hx, hca]))
  | fail)
   refine LoopW.next ⟨i + 1, by omega, zbE hx hb hp⟩ (by simp; omega) ?_
   exact (Wk.env rfl rfl rfl (by simp [wkE, St.lp, zak, zaa, getK] <;> (try (intros; simp_all; done)) <;> (try (intros; omega)) <;> (try grind)))
  ·rw [hp] at h1
   repeat' (first
  | (refine zag ?_; simp [hx, hca])
  | (refine zaj ?_; simp [hx, hca])
  | (refine zah ?_; simp [hx, hca])
  | (refine zai ?_; simp [hx, hca])
  | (refine zas ?_; simp only [zan])
  | (refine zaq ?_; simp only [zan])
  | (refine ⟨?_, by omega⟩)
  | (intro hc <;> (try (exfalso; omega)))
  | (refine CallP.fun_ (h1) (by first | rfl | fail) (by first | assumption | (simp; done) | fail) (by first | (simp [hx, hca]; done) | (simp [hx, hca]; rfl) | fail) (by first | (simp; done) | fail) (fun d hd => ?_); subst hd; (try simp [hx, hca]))
  | fail)
   (refine EndOK.val (.inr rfl) ?_; simp [zaC, zaf, zaw, Tryz.results147])
   rw [zg4 hb hx hp]
   omega
theorem zhe (l : List (Int)) (f : FuncId) (caps : List U) (p : Int → Bool) (hf : ∀ n ∈ l, Fun Tryz.prog f (zo4 n :: caps.map .u) (· = .u (.bool (p n)))) (hcl : zal Tryz.prog f = true)
  (hca : ∀ o, zcp o (caps.map .u) = some (caps.map .u, [])) (hcb : ∀ o, zbJ o (caps.map .u) = some (caps, [])) : Fun Tryz.prog 82 [.u (zbV l), .fnc (.func f) (caps.map .u)] (· = .u (.bool (l.any p))) := by
 have h1 := zkD l f caps p hf hcl hca
 (refine Fun.of_body Tryz.func82 rfl (by simp) fun Γ hn => ?_); simp only [entry, List.zipIdx_cons, List.zipIdx_nil, List.map_cons, List.map_nil, Nat.zero_add, Tryz.ntmps82]
 simp only [zbV] at h1 ⊢
 repeat' (first
  | (refine zag ?_; simp [hcb])
  | (refine zaj ?_; simp [hcb])
  | (refine zah ?_; simp [hcb])
  | (refine zas ?_; simp only [zan])
  | (refine CallP.fun_ (h1) (by first | rfl | fail) (by first | assumption | (simp; done) | fail) (by first | (simp [hcb]; done) | (simp [hcb]; rfl) | fail) (by first | (simp; done) | fail) (fun d hd => ?_); subst hd; (try simp [hcb]))
  | fail)
 (refine EndOK.val (.inr rfl) ?_; simp [zaC, zaf, zaw, Tryz.results82])
 have h2 := zg5 p l 0 (by omega)
 rw [Bool.eq_iff_iff]
 simpa using h2
end Go.Proofs.YtepiegcjnaohjaaGreatDoor
namespace Go.Proofs.YtepiegcjnaohjaaGreatDoor
open Go Go.VL
structure Vo where
 mark : Int
 who : Int
 yes : Bool
 day : Int
def voU (l : List Vo) : U := .sl (l.map fun v => [.int .i64 v.mark, .int .i64 v.who, .bool v.yes, .int .i64 v.day])
def voR (l : List Vo) : List (List D) := l.map fun v => [.u (.int .i64 v.mark), .u (.int .i64 v.who), .u (.bool v.yes), .u (.int .i64 v.day)]
theorem zbD (l : List Vo) : (voR l).length = l.length := by simp [voR]
theorem zjs (l : List Vo) : rowsD (l.map fun v => [U.int .i64 v.mark, .int .i64 v.who, .bool v.yes, .int .i64 v.day]) = voR l := by simp [rowsD, voR, Function.comp_def]
theorem zei (l : List Vo) : zcC (voR l) = some (l.map fun v => [U.int .i64 v.mark, .int .i64 v.who, .bool v.yes, .int .i64 v.day]) := by rw [← zjs]; simp
theorem zat (l) : zbf (voR l) = True := by rw [← zjs]; simp
theorem zam (n : Nat) (l) : (∀ x ∈ voR l, ∀ y ∈ x, D.under n y = true) ↔ True := by
 refine ⟨fun _ => trivial, fun _ x hx y hy => ?_⟩
 obtain ⟨b, _, rfl⟩ := List.mem_map.1 hx
 simp at hy
 rcases hy with rfl | rfl | rfl | rfl <;> simp [D.under]
theorem zfl (l : List Vo) : ziH 4 (voR l) := fun r hr => by obtain ⟨t, _, rfl⟩ := List.mem_map.1 hr; rfl
theorem zfk (l : List Vo) (v : Vo) : voR l ++ [[.u (.int .i64 v.mark), .u (.int .i64 v.who), .u (.bool v.yes), .u (.int .i64 v.day)]] = voR (l ++ [v]) := by simp [voR]
theorem ziK (S : D → Option U) (l : List Vo) : (voR l).map (fun r => r.map (frzS S)) = voR l := by simp [voR, frzS]
def zcG (l : List Int) : Bool := decide (l ≠ []) && decide (l.length ≤ 60) && decide l.Nodup && l.all fun x => decide (0 ≤ x) && decide (x < 200)
theorem zfx {l : List Int} (h0 : l ≠ []) (h1 : l.length ≤ 60) (h2 : l.Nodup) (h3 : ∀ y ∈ l, 0 ≤ y ∧ y < 200) : zcG l = true := by
 simp only [zcG, Bool.and_eq_true, decide_eq_true_eq, List.all_eq_true]
 exact ⟨⟨⟨h0, h1⟩, h2⟩, h3⟩
theorem zjY {l : List Int} (h : zcG l = true) : l ≠ [] ∧ l.length ≤ 60 ∧ l.Nodup ∧ ∀ y ∈ l, 0 ≤ y ∧ y < 200 := by
 simp only [zcG, Bool.and_eq_true, decide_eq_true_eq, List.all_eq_true] at h
 exact ⟨h.1.1.1, h.1.1.2, h.1.2, h.2⟩
theorem zdY {l : List Int} {i : Nat} {x : Int} (hx : l[i]? = some x) (h : (x < 0 ∨ 200 ≤ x) ∨ x ∈ l.take i) : zcG l = false := by
 cases hv : zcG l with
 | false => rfl
 | true =>
  obtain ⟨_, _, h2, h3⟩ := zjY hv
  exfalso
  rcases h with h | h
  ·have := h3 x (List.mem_of_getElem? hx); omega
  ·obtain ⟨hi, rfl⟩ := List.getElem?_eq_some_iff.1 hx
   have e := List.take_append_drop i l
   rw [← e, List.nodup_append] at h2
   exact h2.2.2 _ h _ (List.mem_iff_getElem?.2 ⟨0, by rw [List.getElem?_drop]; exact List.getElem?_eq_getElem hi⟩) rfl
def zo3 (l : List Int) (x : Int) : Int := match l.findIdx? (· = x) with | none => -1 | some i => i
theorem zif {l : List Int} {x : Int} (h : x ∉ l) : l.findIdx? (· = x) = none := by
 rw [List.findIdx?_eq_none_iff]; intro y hy; simp; intro e; exact h (e ▸ hy)
theorem znd {l : List Int} {x : Int} {i : Nat} (hx : l[i]? = some x) (h : x ∉ l.take i) : l.findIdx? (· = x) = some i := by
 rw [List.findIdx?_eq_some_iff_getElem]
 obtain ⟨hi, e⟩ := List.getElem?_eq_some_iff.1 hx
 refine ⟨hi, by simp [e], fun j hj => ?_⟩
 simp
 intro e2
 exact h (List.mem_iff_getElem?.2 ⟨j, by rw [List.getElem?_take_of_lt hj, List.getElem?_eq_getElem (by omega), e2]⟩)
/-- The voices of members that count: of each the first one that is in time. -/
def cnt (members : List Int) (until_ : Int) : List Int → List Vo → List Vo
 | _, [] => []
 | seen, v :: r => if until_ < v.day ∨ v.who ∈ seen ∨ v.who ∉ members then cnt members until_ seen r else v :: cnt members until_ (seen ++ [v.who]) r
def zmh (members : List Int) (until_ : Int) (l : List Vo) : List Vo := if zcG members = true then cnt members until_ [] l else []
theorem zjf (members : List Int) (u : Int) : ∀ (a b : List Vo) (seen : List Int), cnt members u seen (a ++ b) = cnt members u seen a ++ cnt members u (seen ++ (cnt members u seen a).map (·.who)) b
 | [], b, seen => by simp [cnt]
 | v :: a, b, seen => by
  rw [List.cons_append, cnt, cnt]
  split
  ·exact zjf members u a b seen
  ·rw [zjf members u a b]; simp
def zf7 (l : List Int) : List (Key × List U) := l.map fun g => (Key.i .i64 g, [U.bool true])
theorem zgt (g : Int) : ∀ l : List Int, zb6 (zf7 l) (.i .i64 g) = if g ∈ l then some [U.bool true] else none
 | [] => rfl
 | a :: l => by
  have := zgt g l
  simp only [zf7] at this
  simp only [zf7, List.map_cons, zb6, this, List.mem_cons, Key.i.injEq, true_and]
  by_cases h : g = a <;> simp [h]
theorem zk1 {g : Int} {l : List Int} (h : g ∉ l) : zdf (zf7 l) (.i .i64 g) [U.bool true] = zf7 (l ++ [g]) := by
 rw [zfy]
 ·simp [zf7]
 ·intro p hp
  obtain ⟨a, ha, rfl⟩ := List.mem_map.1 hp
  intro e
  simp at e
  exact h (e ▸ ha)
def ziF (l : List Vo) : Nat := (l.filter (·.yes)).length
end Go.Proofs.YtepiegcjnaohjaaGreatDoor
namespace Go.Proofs.YtepiegcjnaohjaaGreatDoor
open Go Go.VL
theorem znk {members : List Int} {u : Int} {l : List Vo} {i : Nat} {v : Vo} (h : l[i]? = some v) : cnt members u [] (l.take (i + 1)) = cnt members u [] (l.take i) ++ (if u < v.day ∨ v.who ∈ (cnt members u [] (l.take i)).map (·.who) ∨ v.who ∉ members then [] else [v]) := by
 obtain ⟨hi, rfl⟩ := List.getElem?_eq_some_iff.1 h
 rw [List.take_succ_eq_append_getElem hi, zjf, List.nil_append]
 congr 1
theorem zje (members : List Int) (u : Int) : ∀ (l : List Vo) (seen : List Int), (cnt members u seen l).length ≤ l.length
 | [], _ => by simp [cnt]
 | v :: l, seen => by
  rw [cnt]
  split
  ·have := zje members u l seen; simp; omega
  ·have := zje members u l (seen ++ [v.who]); simp; omega
theorem zmz {l : List Vo} {i : Nat} {v : Vo} (h : l[i]? = some v) : ziF (l.take (i + 1)) = ziF (l.take i) + (if v.yes = true then 1 else 0) := by
 obtain ⟨hi, rfl⟩ := List.getElem?_eq_some_iff.1 h
 rw [List.take_succ_eq_append_getElem hi, ziF, ziF, List.filter_append, List.length_append]
 split <;> simp_all
theorem znK (l : List Vo) : ziF l ≤ l.length := List.length_filter_le _ _
end Go.Proofs.YtepiegcjnaohjaaGreatDoor
namespace Go.Proofs.YtepiegcjnaohjaaGreatDoor
open Go Go.VL
structure Sp where
 mark : Int
 frm : Int
 to : Int
structure En where
 author : Int
 seq : Int
 day : Int
 knows : List Int
 kind : Int
 circle : Int
 who : Int
 n : Int
 m : Int
 ref : Int
 keys : List Int
 spans : List Sp
 text : List UInt8
def zpm (l : List Sp) : U := .sl (l.map fun s => [.int .i64 s.mark, .int .i64 s.frm, .int .i64 s.to])
def zav (e : En) : List U := [.int .i64 e.author, .int .i64 e.seq, .int .i64 e.day, .sl (e.knows.map fun x => [.int .i64 x]), .int .i64 e.kind, .int .i64 e.circle, .int .i64 e.who, .int .i64 e.n, .int .i64 e.m, .int .i64 e.ref,
 .sl (e.keys.map fun x => [.int .i64 x]), .sl (e.spans.map fun s => [.int .i64 s.mark, .int .i64 s.frm, .int .i64 s.to]), .str e.text]
def zf9 (n : Int) : Bool := decide (0 ≤ n) && decide (n ≤ 1073741824)
def zm7 (n : Int) : Bool := decide (0 ≤ n) && decide (n < 200)
def zg6 (s : List UInt8) (r : Nat) : Bool := decide (0 ≤ Lib.indexByte s r.toUInt8)
theorem Fun.zpl {P : Program} {f : FuncId} {ds : List D} {u : U} (h : ∀ (k : Kr) (own : Nat → Prop) (w : World) (vs : Array Value), Sat k own [] w → RepL k ds vs → ∃ v, RepU k.mem u v ∧ Calls P f vs w fun e w' => e = .returned v ∧ w' = w) :
  Fun P f ds (· = .u u) := by
 intro k own w vs hsat hhdr hown hrep
 obtain ⟨v, hv, hc⟩ := h k own w vs hsat hrep
 refine hc.mono ?_
 rintro e w' ⟨rfl, rfl⟩
 exact ⟨v, .u u, [], 0, k, rfl, ⟨.refl _, fun i hi => hhdr i hi, fun _ _ _ e => .inl e, hown, rfl, rfl, rfl, Nat.le_refl _, fun x hx => rfl⟩, ⟨fun x o v hm => hsat.mem x o v hm, fun j ob hj => by simp [getK] at hj, fun x y ox oy g g' z hx => by simp [getK] at hx⟩, hhdr, Nat.le_refl _, .u _ _ hv, by simp [zaw], rfl⟩
theorem zk4 {k : Kr} {d e : D} {vs : Array Value} (h : RepL k [d, e] vs) : ∃ v u, vs = #[v, u] ∧ Rep k d v ∧ Rep k e u := by
 obtain ⟨h1, h2⟩ := h
 have hs : vs.size = 2 := by simpa using h1
 refine ⟨vs.getD 0 undef, vs.getD 1 undef, ?_, h2 0 d rfl, h2 1 e rfl⟩
 apply Array.ext_getElem?
 intro i
 match i with
 | 0 => simp [show 0 < vs.size by omega]
 | 1 => simp [show 1 < vs.size by omega]
 | i + 2 => rw [Array.getElem?_eq_none (by omega), Array.getElem?_eq_none (by simp)]
theorem zmK (s : List UInt8) (r : Nat) (hr : r < 128) : Fun Tryz.prog 224 [.u (.str s), .u (.int .i32 r)] (· = .u (.bool (zg6 s r))) :=
 Fun.zpl fun k own w vs hsat hrep => by
  obtain ⟨v1, v2, rfl, h1, h2⟩ := zk4 hrep
  have h1 := zdH h1
  have h2 := zbm h2
  subst h1 h2
  exact ⟨_, .bool _, Tryz.strings_ContainsRune_ascii ⟨s.toArray⟩ r w (by omega) (by omega)⟩
def zoO (l : List Int) : Bool := decide (∀ i : Fin (l.length - 1), l.getD i 0 < l.getD (i + 1) 0)
def svB (s : Sp) : Bool := zf9 s.mark && decide (0 ≤ s.frm) && decide (s.frm < s.to) && decide (s.to ≤ 1048576)
def zS : List UInt8 := [99, 119, 110, 109, 114, 107, 115, 116]
def usesL : List (List UInt8) := [[107, 116], [99], [99], [99, 119, 110, 109], [110, 114], [119, 115], [119, 109, 115], [99, 119, 109, 114, 115], [99, 110, 109, 114], [110, 114], [99, 110, 109, 116], [114, 116], [110, 114], [114], [99, 116], [119, 110], [99, 109], [99, 107], [110, 109, 114], [110, 109, 114], [110, 109, 114]]
def zjL (e : En) : List Bool := [decide (e.circle = 0), decide (e.who = 0), decide (e.n = 0), decide (e.m = 0), decide (e.ref = -1), decide ((e.keys.length : Int) = 0), decide ((e.spans.length : Int) = 0), decide (e.text = [])]
def zmO (e : En) (i : Nat) : Bool := (zjL e).getD i true || zg6 (usesL.getD e.kind.toNat []) (zS.getD i 0).toNat
def ze8 (e : En) : Bool := (List.range 8).all (zmO e)
theorem zlg {e : En} {i : Nat} (hi : i < 8) (h : zmO e i = false) : ze8 e = false := by
 rw [ze8, List.all_eq_false]
 exact ⟨i, List.mem_range.2 hi, by simp [h]⟩
theorem zkb {e : En} (h : ∀ j, j < 8 → zmO e j = true) : ze8 e = true := by
 rw [ze8, List.all_eq_true]
 exact fun i hi => h i (List.mem_range.1 hi)
end Go.Proofs.YtepiegcjnaohjaaGreatDoor
namespace Go.Proofs.YtepiegcjnaohjaaGreatDoor
open Go Go.VL
structure Tok where
 kind : Int
 text : List UInt8
 n : Int
 pos : Int
 deriving DecidableEq, Inhabited
def Tok.row (t : Tok) : List U := [.int .i64 t.kind, .str t.text, .int .i64 t.n, .int .i64 t.pos]
def zbG (c : UInt8) : Bool := decide (c.toNat = 32) || decide (c.toNat = 9) || decide (c.toNat = 10)
def zcv (c : UInt8) : Bool := zcx c || za6 c
def za5 (s : List UInt8) : Int := s.foldl (fun n c => 10 * n + ((c.toNat : Int) - 48)) 0
def zeP (s : List UInt8) : Option Int :=
 if s = [] ∨ zb1 za6 s ≠ s.length ∨ (s.head? = some 48 ∧ s ≠ [48]) ∨ 13 < s.length then none else if 1099511627776 < za5 s then none else some (za5 s)
theorem zdS (s : List UInt8) (c : UInt8) : za5 (s ++ [c]) = 10 * za5 s + ((c.toNat : Int) - 48) := by simp [za5]
theorem zeH : ∀ (n : Nat) (s : List UInt8), s.length = n → (∀ c ∈ s, za6 c = true) → 0 ≤ za5 s ∧ za5 s < 10 ^ n
 | 0, s, h, _ => by have := List.eq_nil_of_length_eq_zero h; subst this; simp [za5]
 | n + 1, s, h, hd => by
  have hne : s ≠ [] := fun e => by rw [e] at h; simp at h
  obtain ⟨t, c, rfl⟩ : ∃ t c, s = t ++ [c] := ⟨s.dropLast, s.getLast hne, (List.dropLast_concat_getLast hne).symm⟩
  have h1 := zeH n t (by simpa using h) (fun x hx => hd x (by simp [hx]))
  have h2 := hd c (by simp)
  simp only [za6, Bool.and_eq_true, decide_eq_true_eq] at h2
  rw [zdS]
  have : (10 : Int) ^ (n + 1) = 10 * 10 ^ n := by rw [Int.pow_succ]; omega
  omega
end Go.Proofs.YtepiegcjnaohjaaGreatDoor
namespace Go.Proofs.YtepiegcjnaohjaaGreatDoor
open Go Go.VL
def signsL : List (List UInt8) := [[61, 61], [59], [44], [61], [60], [43], [45], [42], [47], [40], [41]]
def zf8 (s : List UInt8) : Except Int Tok := match s with
 | [] => .error 0
 | c :: r => if zcx c = true then
   if zhs ((c :: r).take (zb1 zcv (c :: r))) = true then .ok ⟨1, (c :: r).take (zb1 zcv (c :: r)), 0, 0⟩ else .error 13
  else if za6 c = true then
   match zeP ((c :: r).take (zb1 za6 (c :: r))) with | some n => .ok ⟨2, (c :: r).take (zb1 za6 (c :: r)), n, 0⟩ | none => .error 3
  else match signsL.find? fun x => x.isPrefixOf (c :: r) with | some x => .ok ⟨3, x, 0, 0⟩ | none => .error 11
def nextD (s : List UInt8) : D := match zf8 s with | .ok t => .tup [.u (.agg [.int .i64 t.kind, .str t.text, .int .i64 t.n, .int .i64 t.pos]), .u (.int .i64 0)] | .error e => .tup [.u (.agg [.int .i64 0, .str [], .int .i64 0, .int .i64 0]), .u (.int .i64 e)]
end Go.Proofs.YtepiegcjnaohjaaGreatDoor
namespace Go.Proofs.YtepiegcjnaohjaaGreatDoor
open Go Go.VL Go.ChangeShapes Go.WideShapes Go.ChangeAt Go.RowKit
theorem Tryz.own : ownKnob Tryz.prog.godebug = none := by kernel_rfl
theorem Tryz.zox : laidOutB Tryz.prog = true := by kernel_rfl
theorem Tryz.zsW : zgl Tryz.prog = true := by kernel_rfl
theorem znP : ∀ (m : Nat) (r : List U), SizeOf.sizeOf r ≤ m → HasRow Tryz.prog 55 r → ∃ e : Exp, r = e.row
 | 0, r, hm, _ => by cases r <;> simp at hm
 | m + 1, r, hm, h => by
  obtain ⟨rs, hr, h⟩ := h.of_struct zrp
  match rs, h with
  | [a, b, c, d, f], h =>
   obtain ⟨h1, h2, h3, h4, h5, _⟩ := h
   obtain ⟨x, rfl, _⟩ := h1.of_int io3
   obtain ⟨y, rfl, _⟩ := h2.of_int io3
   obtain ⟨z, rfl, _⟩ := h3.of_int io3
   obtain ⟨s, rfl, _⟩ := h4.of_str (by simp)
   obtain ⟨rows, rfl, _, h6⟩ := h5.of_slice zrB
   have hsz : ∀ q ∈ rows, SizeOf.sizeOf q ≤ m := fun q hq => by
    have := List.sizeOf_lt_of_mem hq
    rw [hr] at hm
    simp at hm
    omega
   obtain ⟨l, rfl, _⟩ := rows_list Exp.row (fun _ => True) (rows := rows) fun q hq => by
    obtain ⟨e, he⟩ := znP m q (hsz q hq) (h6 q hq)
    exact ⟨e, he, trivial⟩
   exact ⟨.mk x y z s l, by rw [hr, Exp.row_eq]; rfl⟩
theorem zeY {r : List U} (h : HasRow Tryz.prog 55 r) : ∃ e : Exp, r = [.int .i64 e.op, .int .i64 e.n, .int .i64 e.unit, .str e.s, .sl (e.args.map Exp.row)] := by
 obtain ⟨e, rfl⟩ := znP _ r (Nat.le_refl _) h
 exact ⟨e, e.row_eq⟩
theorem zoZ {r : List U} (h : HasRow Tryz.prog 137 r) : ∃ l : Let, r = [.str l.name, .int .i64 l.body.op, .int .i64 l.body.n, .int .i64 l.body.unit, .str l.body.s, .sl (l.body.args.map Exp.row)] ∧ True := by
 obtain ⟨rs, hr, h⟩ := h.of_struct zpv
 match rs, h with
 | [a, b], h =>
  obtain ⟨h1, h2, _⟩ := h
  obtain ⟨x, rfl, _⟩ := h1.of_str (by simp)
  obtain ⟨e, rfl⟩ := zeY h2
  exact ⟨⟨x, e⟩, by rw [hr]; rfl, trivial⟩
theorem zo2 {u : U} (h : ArgU Tryz.prog 3 u) : ∃ n, u = .int .i64 n := by
 obtain ⟨n, h1, _⟩ := (h.one (by simp) (by simp)).of_int io3
 exact ⟨n, by simpa using h1⟩
end Go.Proofs.YtepiegcjnaohjaaGreatDoor
namespace Go.Proofs.YtepiegcjnaohjaaGreatDoor
open Go Go.VL
attribute [local simp] zcR zb9 evPure opd uOf zaI St.put St.at getK binD binI binS binB nilD aggD zg9 zit lookD lookR zcz rangeS Go.VL.nextD Go.VL.nextS zcB ziI ziG zga zb6 mkV zbi zbh zcK zbg zbs zbB mapEff zdf zf6 Key.kk shiftI arith unD convD zdK loadD cellsAt fieldAddrD fieldD indexAddrD indexSlD arrAddr indexD sliceD cutD lenD minmaxD nilCheckD buildD fillD zbQ zcV zex setAll zcF zer zcs zhq zcq St.add zaU zbO rowsOf zdE zco zax zac zaa zby zdg za8 entry zbq zbv valD zb7 zcp zgE zdc zdd zbU zbJ zaA zaY zbt delAll effD St.effS zc4 zbj zbb zc5 zbk zbd zcm zbc za0 zcn zcW zbP zch zbw zcf zcg zaP mkD zbR zbF zbI zaA zcr D.ids Op.operands Call.operands zbN makeIfD makeFuncD typeAssertD zis zdw zdx zhx zcA IntKind.bits zcC List.take_of_length_le List.range_succ
attribute [local irreducible] V G H HD HD2 zan Eff CallP CallV EndOK Fun Ret FinOK LoopI LoopW EndW
theorem zkB (l : List Int) (v : Int) (hl : l.length ≤ 1000000) : Fun Tryz.prog 196 [.u (zbV l), .u (.int .i64 v)] (· = .u (.int .i64 (zo3 l v))) := by
 obtain ⟨R, hR⟩ : ∃ R, R = zo3 l v := ⟨_, rfl⟩
 rw [← hR]
 unfold zbV
 (refine Fun.of_body Tryz.func196 rfl (by simp) fun Γ hn => ?_); simp only [entry, List.zipIdx_cons, List.zipIdx_nil, List.map_cons, List.map_nil, Nat.zero_add, Tryz.ntmps196]
 repeat' (first
  | (refine zag ?_; simp)
  | (refine zaj ?_; simp)
  | (refine zah ?_; simp)
  | (refine zau ?_; simp)
  | fail)
 refine zbr (α := { i : Nat // i ≤ l.length ∧ v ∉ l.take i }) [0, 1, 7] (fun i => [(8, .u (.int .i64 i.1))]) (fun i => l.length - i.1) ⟨0, by omega, by simp⟩ ?_ ?_
 ·exact (Wk.env rfl rfl rfl (by simp [wkE, St.lp, zak, zaa, getK] <;> (try (intros; simp_all; done)) <;> (try (intros; omega)) <;> (try grind)))
 rintro ⟨i, hi, hb⟩
 simp [St.lp, St.only, zak, zaa, getK]
 rcases hx : l[i]? with _ | x
 ·have hge : l.length ≤ i := by simpa using hx
  obtain rfl : i = l.length := by omega
  rw [List.take_length] at hb
  have e : R = -1 := by rw [hR, zo3, zif hb]
  rw [e]
  repeat' (first
  | (refine zag ?_; simp [hx])
  | (refine zaj ?_; simp [hx])
  | (refine zah ?_; simp [hx])
  | (refine zas ?_; simp only [zan])
  | (refine zaZ ?_; simp [zan])
  | fail)
  (refine EndOK.val (.inr rfl) ?_; simp [zaC, zaf, zaw, Tryz.results196])
 ·have hlt : i < l.length := (List.getElem?_eq_some_iff.1 hx).1
  by_cases he : v = x
  ·have e : R = i := by rw [hR, zo3, znd (he ▸ hx) hb]
   rw [e]
   repeat' (first
  | (refine zag ?_; simp [hx, he])
  | (refine zaj ?_; simp [hx, he])
  | (refine zah ?_; simp [hx, he])
  | (refine zai ?_; simp [hx, he])
  | (refine zas ?_; simp only [zan])
  | (refine zaq ?_; simp only [zan])
  | (refine ⟨?_, by omega⟩)
  | (intro hc <;> (try (exfalso; omega)))
  | fail)
   (refine EndOK.val (.inr rfl) ?_; simp [zaC, zaf, zaw, Tryz.results196])
  ·have he' : ¬ x = v := fun h => he h.symm
   repeat' (first
  | (refine zag ?_; simp [hx, he, he'])
  | (refine zaj ?_; simp [hx, he, he'])
  | (refine ⟨by omega, ?_⟩)
  | (refine zah ?_; simp [hx, he, he'])
  | (refine zai ?_; simp [hx, he, he'])
  | (refine zap ?_; simp [hx, he, he'])
  | (refine zaq ?_; simp only [zan])
  | (refine ⟨?_, by omega⟩)
  | (intro hc <;> (try (exfalso; omega)))
  | fail)
   refine LoopW.next ⟨i + 1, by omega, fun hm => ?_⟩ (by simp; omega) ?_
   ·rw [List.take_succ, hx] at hm
    rcases List.mem_append.1 hm with h | h
    ·exact hb h
    ·simp at h; exact he h
   exact (Wk.env rfl rfl rfl (by simp [wkE, St.lp, zak, zaa, getK] <;> (try (intros; simp_all; done)) <;> (try (intros; omega)) <;> (try grind)))
theorem zdU (l : List Int) (v : Int) (hl : l.length ≤ 1000000) : Fun Tryz.prog 120 [.u (zbV l), .u (.int .i64 v)] (· = .u (.bool (decide (v ∈ l)))) := by
 have h := zkB l v hl
 unfold zo3 at h
 by_cases hm : v ∈ l
 ·obtain ⟨i, hi⟩ : ∃ i, l.findIdx? (· = v) = some i := by
   cases hf : l.findIdx? (· = v) with
   | none => rw [List.findIdx?_eq_none_iff] at hf; have := hf v hm; simp at this
   | some i => exact ⟨i, rfl⟩
  rw [hi] at h
  rw [decide_eq_true hm]
  (refine Fun.of_body Tryz.func120 rfl (by simp) fun Γ hn => ?_); simp only [entry, List.zipIdx_cons, List.zipIdx_nil, List.map_cons, List.map_nil, Nat.zero_add, Tryz.ntmps120]
  repeat' (first
  | (refine zag ?_; simp)
  | (refine zaj ?_; simp)
  | (refine zah ?_; simp)
  | (refine zas ?_; simp only [zan])
  | (refine CallP.fun_ (h) (by first | rfl | fail) (by first | assumption | (simp; done) | fail) (by first | (simp; done) | (simp; rfl) | fail) (by first | (simp; done) | fail) (fun d hd => ?_); subst hd; (try simp))
  | fail)
  (refine EndOK.val (.inr rfl) ?_; simp [zaC, zaf, zaw, Tryz.results120])
 ·rw [zif hm] at h
  rw [decide_eq_false hm]
  (refine Fun.of_body Tryz.func120 rfl (by simp) fun Γ hn => ?_); simp only [entry, List.zipIdx_cons, List.zipIdx_nil, List.map_cons, List.map_nil, Nat.zero_add, Tryz.ntmps120]
  repeat' (first
  | (refine zag ?_; simp)
  | (refine zaj ?_; simp)
  | (refine zah ?_; simp)
  | (refine zas ?_; simp only [zan])
  | (refine CallP.fun_ (h) (by first | rfl | fail) (by first | assumption | (simp; done) | fail) (by first | (simp; done) | (simp; rfl) | fail) (by first | (simp; done) | fail) (fun d hd => ?_); subst hd; (try simp))
  | fail)
  (refine EndOK.val (.inr rfl) ?_; simp [zaC, zaf, zaw, Tryz.results120])
theorem zjX (l : List Int) (hl : l.length ≤ 1000000) : Fun Tryz.prog 58 [.u (zbV l)] (· = .u (.bool (zcG l))) := by
 obtain ⟨R, hR⟩ : ∃ R, R = zcG l := ⟨_, rfl⟩
 rw [← hR]
 by_cases h0 : l.length = 0
 ·have e : l = [] := List.eq_nil_of_length_eq_zero h0
  subst e
  have e2 : R = false := by rw [hR]; rfl
  rw [e2]
  simp only [zbV, List.map_nil]
  (refine Fun.of_body Tryz.func58 rfl (by simp) fun Γ hn => ?_); simp only [entry, List.zipIdx_cons, List.zipIdx_nil, List.map_cons, List.map_nil, Nat.zero_add, Tryz.ntmps58]
  repeat' (first
  | (refine zag ?_; simp)
  | (refine zaj ?_; simp)
  | (refine zah ?_; simp)
  | (refine zai ?_; simp)
  | (refine zas ?_; simp only [zan])
  | fail)
  (refine EndOK.val (.inr rfl) ?_; simp [zaC, zaf, zaw, Tryz.results58])
 have h0' : ¬ (l.length : Int) = 0 := by omega
 have hne0 : l ≠ [] := fun e => h0 (by rw [e]; rfl)
 unfold zbV
 by_cases h60 : 60 < l.length
 ·have h60' : (60 : Int) < l.length := by omega
  have e2 : R = false := by rw [hR, zcG]; simp; omega
  rw [e2]
  (refine Fun.of_body Tryz.func58 rfl (by simp) fun Γ hn => ?_); simp only [entry, List.zipIdx_cons, List.zipIdx_nil, List.map_cons, List.map_nil, Nat.zero_add, Tryz.ntmps58]
  repeat' (first
  | (refine zag ?_; simp [h0, h0', h60', hne0])
  | (refine zaj ?_; simp [h0, h0', h60', hne0])
  | (refine zah ?_; simp [h0, h0', h60', hne0])
  | (refine zai ?_; simp [h0, h0', h60', hne0])
  | (refine zas ?_; simp only [zan])
  | fail)
  (refine EndOK.val (.inr rfl) ?_; simp [zaC, zaf, zaw, Tryz.results58])
 have h60' : ¬ (60 : Int) < l.length := by omega
 (refine Fun.of_body Tryz.func58 rfl (by simp) fun Γ hn => ?_); simp only [entry, List.zipIdx_cons, List.zipIdx_nil, List.map_cons, List.map_nil, Nat.zero_add, Tryz.ntmps58]
 repeat' (first
  | (refine zag ?_; simp [h0, h0', h60', hne0])
  | (refine zaj ?_; simp [h0, h0', h60', hne0])
  | (refine zah ?_; simp [h0, h0', h60', hne0])
  | (refine zai ?_; simp [h0, h0', h60', hne0])
  | (refine zau ?_; simp [h0, h0', h60', hne0])
  | (refine zaq ?_; simp only [zan])
  | fail)
 refine zbr (α := { i : Nat // i ≤ l.length ∧ (l.take i).Nodup ∧ ∀ y ∈ l.take i, 0 ≤ y ∧ y < 200 }) [0, 13, 14] (fun i => [(15, .u (.int .i64 i.1))]) (fun i => l.length - i.1) ⟨0, by omega, by simp, by simp⟩ ?_ ?_
 ·exact (Wk.env rfl rfl rfl (by simp [wkE, St.lp, zak, zaa, getK] <;> (try (intros; simp_all; done)) <;> (try (intros; omega)) <;> (try grind)))
 rintro ⟨i, hi, hd, hb⟩
 simp [St.lp, St.only, zak, zaa, getK]
 rcases hx : l[i]? with _ | x
 ·have hge : l.length ≤ i := by simpa using hx
  obtain rfl : i = l.length := by omega
  rw [List.take_length] at hd hb
  have e2 : R = true := by rw [hR]; exact zfx hne0 (by omega) hd hb
  rw [e2]
  repeat' (first
  | (refine zag ?_; simp [hx])
  | (refine zaj ?_; simp [hx])
  | (refine zah ?_; simp [hx])
  | (refine zas ?_; simp only [zan])
  | (refine zaZ ?_; simp [zan])
  | fail)
  (refine EndOK.val (.inr rfl) ?_; simp [zaC, zaf, zaw, Tryz.results58])
 ·have hlt : i < l.length := (List.getElem?_eq_some_iff.1 hx).1
  have hle : (i : Int) ≤ l.length := by omega
  have hct := zdU (l.take i) x (by rw [List.length_take]; omega)
  simp only [zbV, List.map_take] at hct
  by_cases hr : x < 0 ∨ 200 ≤ x
  ·have e2 : R = false := by rw [hR]; exact zdY hx (.inl hr)
   rw [e2]
   rcases hr with hr | hr
   ·repeat' (first
  | (refine zag ?_; simp [hx, hr])
  | (refine zaj ?_; simp [hx, hr])
  | (refine zah ?_; simp [hx, hr])
  | (refine zai ?_; simp [hx, hr])
  | (refine zas ?_; simp only [zan])
  | (refine zaq ?_; simp only [zan])
  | (refine ⟨?_, by omega⟩)
  | (intro hc <;> (try (exfalso; omega)))
  | fail)
    (refine EndOK.val (.inr rfl) ?_; simp [zaC, zaf, zaw, Tryz.results58])
   ·have hr2 : ¬ x < 0 := by omega
    repeat' (first
  | (refine zag ?_; simp [hx, hr, hr2])
  | (refine zaj ?_; simp [hx, hr, hr2])
  | (refine zah ?_; simp [hx, hr, hr2])
  | (refine zai ?_; simp [hx, hr, hr2])
  | (refine zas ?_; simp only [zan])
  | (refine zaq ?_; simp only [zan])
  | (refine ⟨?_, by omega⟩)
  | (intro hc <;> (try (exfalso; omega)))
  | fail)
    (refine EndOK.val (.inr rfl) ?_; simp [zaC, zaf, zaw, Tryz.results58])
  ·have hr1 : ¬ x < 0 := by omega
   have hr2 : ¬ 200 ≤ x := by omega
   by_cases hm : x ∈ l.take i
   ·rw [decide_eq_true hm] at hct
    have e2 : R = false := by rw [hR]; exact zdY hx (.inr hm)
    rw [e2]
    repeat' (first
  | (refine zag ?_; simp [hx, hr1, hr2, hle])
  | (refine zaj ?_; simp [hx, hr1, hr2, hle])
  | (refine zah ?_; simp [hx, hr1, hr2, hle])
  | (refine zai ?_; simp [hx, hr1, hr2, hle])
  | (refine zas ?_; simp only [zan])
  | (refine zaq ?_; simp only [zan])
  | (refine ⟨?_, by omega⟩)
  | (intro hc <;> (try (exfalso; omega)))
  | (refine CallP.fun_ (hct) (by first | rfl | fail) (by first | assumption | (simp; done) | fail) (by first | (simp [hx, hr1, hr2, hle]; done) | (simp [hx, hr1, hr2, hle]; rfl) | fail) (by first | (simp; done) | fail) (fun d hd => ?_); subst hd; (try simp [hx, hr1, hr2, hle]))
  | fail)
    (refine EndOK.val (.inr rfl) ?_; simp [zaC, zaf, zaw, Tryz.results58])
   ·rw [decide_eq_false hm] at hct
    repeat' (first
  | (refine zag ?_; simp [hx, hr1, hr2, hle])
  | (refine zaj ?_; simp [hx, hr1, hr2, hle])
  | (refine ⟨by omega, ?_⟩)
  | (refine zah ?_; simp [hx, hr1, hr2, hle])
  | (refine zai ?_; simp [hx, hr1, hr2, hle])
  | (refine zap ?_; simp [hx, hr1, hr2, hle])
  | (refine zaq ?_; simp only [zan])
  | (refine ⟨?_, by omega⟩)
  | (intro hc <;> (try (exfalso; omega)))
  | (refine CallP.fun_ (hct) (by first | rfl | fail) (by first | assumption | (simp; done) | fail) (by first | (simp [hx, hr1, hr2, hle]; done) | (simp [hx, hr1, hr2, hle]; rfl) | fail) (by first | (simp; done) | fail) (fun d hd => ?_); subst hd; (try simp [hx, hr1, hr2, hle]))
  | fail)
    refine LoopW.next ⟨i + 1, by omega, ?_, fun y hy => ?_⟩ (by simp; omega) ?_
    ·rw [List.take_succ, hx, List.nodup_append]
     exact ⟨hd, by simp, fun a h1 b h2 => by simp at h2; subst h2; intro e; exact hm (e ▸ h1)⟩
    ·rw [List.take_succ, hx] at hy
     rcases List.mem_append.1 hy with h | h
     ·exact hb y h
     ·simp at h; subst h; omega
    exact (Wk.env rfl rfl rfl (by simp [wkE, St.lp, zak, zaa, getK] <;> (try (intros; simp_all; done)) <;> (try (intros; omega)) <;> (try grind)))
theorem zjd (members : List Int) (l : List Vo) (u : Int) (hm : members.length ≤ 1000000) (hl : l.length ≤ 1000000) : Fun Tryz.prog 60 [.u (zbV members), .u (voU l), .u (.int .i64 u)] (· = .u (voU (zmh members u l))) := by
 have hv := zjX members hm
 unfold zmh
 cases hvm : zcG members with
 | false =>
  rw [hvm] at hv
  rw [if_neg (by simp)]
  simp only [zbV, voU, List.map_nil] at hv ⊢
  (refine Fun.of_bodyW Tryz.func60 rfl (by simp) fun Γ hn => ?_); simp only [entry, List.zipIdx_cons, List.zipIdx_nil, List.map_cons, List.map_nil, Nat.zero_add, Tryz.ntmps60]
  repeat' (first
  | (refine zag ?_; simp)
  | (refine zaj ?_; simp)
  | (refine zah ?_; simp)
  | (refine zai ?_; simp)
  | (refine zas ?_; simp only [zan])
  | (refine CallP.fun_ (hv) (by first | rfl | fail) (by first | assumption | (simp; done) | fail) (by first | (simp; done) | (simp; rfl) | fail) (by first | (simp; done) | fail) (fun d hd => ?_); subst hd; (try simp))
  | fail)
  refine EndW.norm (EndW.here ?_)
  (refine EndOK.val (.inr rfl) ?_; simp [zaC, zaf, zaw, Tryz.results60, zaD, zaE, zck, zcl, frz, zba, frzS, fv, za3, za4, za9, zaH, zaz, zay, zbz, zbL, zbM, za1])
 | true =>
  rw [hvm] at hv
  rw [if_pos rfl]
  have hct := fun x => zdU members x hm
  simp only [zbV, voU] at hv hct ⊢
  (refine Fun.of_bodyW Tryz.func60 rfl (by simp) fun Γ hn => ?_); simp only [entry, List.zipIdx_cons, List.zipIdx_nil, List.map_cons, List.map_nil, Nat.zero_add, Tryz.ntmps60]
  repeat' (first
  | (refine zag ?_; simp)
  | (refine zaj ?_; simp)
  | (refine zah ?_; simp)
  | (refine zai ?_; simp)
  | (refine zau ?_; simp)
  | (refine zaq ?_; simp only [zan])
  | (refine CallP.fun_ (hv) (by first | rfl | fail) (by first | assumption | (simp; done) | fail) (by first | (simp; done) | (simp; rfl) | fail) (by first | (simp; done) | fail) (fun d hd => ?_); subst hd; (try simp))
  | fail)
  refine zoP _ (Wk.own 8 49 4 (by decide) rfl) ?_
  simp [St.own]
  refine zde (α := { i : Nat // i ≤ l.length }) [0, 2, 7, 15, 16] (fun i => [(8, .vec 1 (cnt members u [] (l.take i.1)).length), (17, .u (.int .i64 i.1))])
   (fun i => [(0, .map (.i .i64) false (zhp (zf7 ((cnt members u [] (l.take i.1)).map (·.who))))), (1, .vec 49 4 (voR (cnt members u [] (l.take i.1))))]) 2 (fun i => l.length - i.1) ⟨0, by omega⟩ ?_ ?_
  ·exact (Wk.cut rfl (by simp [hn, St.lp]) (by simp [wkO, St.lp, zaa, getK, Ob.under, D.under, zad, zae, cnt, voR, zf7, zhp]) (by simp [wkU, St.lp, zak, zaa, getK, D.under, cnt, voR, zf7, zhp]) (by simp [wkE, St.lp, zak, zaa, getK, cnt, voR, zf7, zhp] <;> (try (intros; simp_all; done)) <;> (try (intros; omega)) <;> (try grind)))
  rintro ⟨i, hi⟩
  simp [St.lp, St.only, zak, zaa, getK]
  rcases hx : l[i]? with _ | v
  ·have hge : l.length ≤ i := by simpa using hx
   obtain rfl : i = l.length := by omega
   simp only [List.take_length]
   repeat' (first
  | (refine zag ?_; simp [hx])
  | (refine zaj ?_; simp [hx])
  | (refine zah ?_; simp [hx])
  | (refine zas ?_; simp only [zan])
  | (refine zaZ ?_; simp [zan])
  | fail)
   (refine EndW.frzN 2 ?_; simp [frzN, frz1, zaE, zaD, St.frz, St.frzS, frzS, fv, za3, za4, za9, zaH, zaz, zay, del, frz, zba, ziK, zei, zbD])
   refine EndW.norm (EndW.here ?_)
   (refine EndOK.val (.inr rfl) ?_; simp [zaC, zaf, zaw, Tryz.results60, zaD, zaE, zck, zcl, frz, zba, frzS, fv, za3, za4, za9, zaH, zaz, zay, zbz, zbL, zbM, za1, zei, zbD])
  ·have hlt : i < l.length := (List.getElem?_eq_some_iff.1 hx).1
   have hst := znk (members := members) (u := u) hx
   have hcl := zje members u (l.take i) []
   have hcv := hct v.who
   have hlook := zgt v.who ((cnt members u [] (l.take i)).map (·.who))
   rw [List.length_take] at hcl
   have hcl2 : (cnt members u [] (l.take i)).length ≤ 1000000 := by omega
   generalize cnt members u [] (l.take i) = O at *
   have hlr := zfl O
   have hsn := zfk O v
   by_cases c1 : u < v.day
   ·rw [if_pos (.inl c1), List.append_nil] at hst
    repeat' (first
  | (refine zag ?_; simp [hx, c1])
  | (refine zaj ?_; simp [hx, c1])
  | (refine ⟨by omega, ?_⟩)
  | (refine zah ?_; simp [hx, c1])
  | (refine zai ?_; simp [hx, c1])
  | (refine zap ?_; simp [hx, c1])
  | (refine zaq ?_; simp only [zan])
  | (refine zaZ ?_; simp [zan])
  | (refine ⟨?_, by omega⟩)
  | (intro hc <;> (try (exfalso; omega)))
  | fail)
    refine LoopW.next ⟨i + 1, by omega⟩ (by simp; omega) ?_
    exact (Wk.cut rfl (by simp [hn, St.lp]) (by simp [wkO, St.lp, zaa, getK, Ob.under, D.under, zad, zae, hst, zat, zam, zae]) (by simp [wkU, St.lp, zak, zaa, getK, D.under, hst, zat, zam, zae]) (by simp [wkE, St.lp, zak, zaa, getK, hst, zat, zam, zae] <;> (try (intros; simp_all; done)) <;> (try (intros; omega)) <;> (try grind)))
   ·by_cases c2 : v.who ∈ O.map (·.who)
    ·rw [if_pos (.inr (.inl c2)), List.append_nil] at hst
     rw [if_pos c2] at hlook
     repeat' (first
  | (refine zag ?_; simp [hx, c1, hlook])
  | (refine zaj ?_; simp [hx, c1, hlook])
  | (refine ⟨by omega, ?_⟩)
  | (refine zah ?_; simp [hx, c1, hlook])
  | (refine zai ?_; simp [hx, c1, hlook])
  | (refine zap ?_; simp [hx, c1, hlook])
  | (refine zaq ?_; simp only [zan])
  | (refine zaZ ?_; simp [zan])
  | (refine ⟨?_, by omega⟩)
  | (intro hc <;> (try (exfalso; omega)))
  | fail)
     refine LoopW.next ⟨i + 1, by omega⟩ (by simp; omega) ?_
     exact (Wk.cut rfl (by simp [hn, St.lp]) (by simp [wkO, St.lp, zaa, getK, Ob.under, D.under, zad, zae, hst, zat, zam, zae]) (by simp [wkU, St.lp, zak, zaa, getK, D.under, hst, zat, zam, zae]) (by simp [wkE, St.lp, zak, zaa, getK, hst, zat, zam, zae] <;> (try (intros; simp_all; done)) <;> (try (intros; omega)) <;> (try grind)))
    ·rw [if_neg c2] at hlook
     have hupd := zk1 (g := v.who) c2
     by_cases c3 : v.who ∈ members
     ·rw [if_neg (fun h => by rcases h with h | h | h; exact c1 h; exact c2 h; exact h c3)] at hst
      rw [decide_eq_true c3] at hcv
      repeat' (first
  | (refine zag ?_; simp [hx, c1, hlook, hupd, zbD, hlr, hsn])
  | (refine zaj ?_; simp [hx, c1, hlook, hupd, zbD, hlr, hsn])
  | (refine ⟨by omega, ?_⟩)
  | (refine zah ?_; simp [hx, c1, hlook, hupd, zbD, hlr, hsn])
  | (refine zai ?_; simp [hx, c1, hlook, hupd, zbD, hlr, hsn])
  | (refine zap ?_; simp [hx, c1, hlook, hupd, zbD, hlr, hsn])
  | (refine zaq ?_; simp only [zan])
  | (refine ⟨?_, by omega⟩)
  | (intro hc <;> (try (exfalso; omega)))
  | (refine CallP.fun_ (hcv) (by first | rfl | fail) (by first | assumption | (simp; done) | fail) (by first | (simp [hx, c1, hlook, hupd, zbD, hlr, hsn]; done) | (simp [hx, c1, hlook, hupd, zbD, hlr, hsn]; rfl) | fail) (by first | (simp; done) | fail) (fun d hd => ?_); subst hd; (try simp [hx, c1, hlook, hupd, zbD, hlr, hsn]))
  | fail)
      refine LoopW.next ⟨i + 1, by omega⟩ (by simp; omega) ?_
      exact (Wk.ren ((fun i => if i = 1 then 4 else i)) rfl (by first | (simp [hn]; done) | (intro i hi; rw [hn] at hi; constructor <;> (try simp) <;> (try (intro _)) <;> omega)) (by simp [zmx, St.lp, zak, zaa, getK, zac, zax, D.under, D.le, D.ren, hst, zat, zam, zae] <;> (try (intros; simp_all; done)) <;> (try omega)) (by simp [wkR, St.lp, zaa, getK, zac, zax, obR, leU, zcj, zbf, Ob.under, D.under, D.le, D.ren, hst, zat, zam, zae] <;> (try (intros; simp_all; done)) <;> (try omega)) (by simp [hst, zat, zam, zae]))
     ·rw [if_pos (.inr (.inr c3)), List.append_nil] at hst
      rw [decide_eq_false c3] at hcv
      repeat' (first
  | (refine zag ?_; simp [hx, c1, hlook])
  | (refine zaj ?_; simp [hx, c1, hlook])
  | (refine ⟨by omega, ?_⟩)
  | (refine zah ?_; simp [hx, c1, hlook])
  | (refine zai ?_; simp [hx, c1, hlook])
  | (refine zap ?_; simp [hx, c1, hlook])
  | (refine zaq ?_; simp only [zan])
  | (refine zaZ ?_; simp [zan])
  | (refine ⟨?_, by omega⟩)
  | (intro hc <;> (try (exfalso; omega)))
  | (refine CallP.fun_ (hcv) (by first | rfl | fail) (by first | assumption | (simp; done) | fail) (by first | (simp [hx, c1, hlook]; done) | (simp [hx, c1, hlook]; rfl) | fail) (by first | (simp; done) | fail) (fun d hd => ?_); subst hd; (try simp [hx, c1, hlook]))
  | fail)
      refine LoopW.next ⟨i + 1, by omega⟩ (by simp; omega) ?_
      exact (Wk.cut rfl (by simp [hn, St.lp]) (by simp [wkO, St.lp, zaa, getK, Ob.under, D.under, zad, zae, hst, zat, zam, zae]) (by simp [wkU, St.lp, zak, zaa, getK, D.under, hst, zat, zam, zae]) (by simp [wkE, St.lp, zak, zaa, getK, hst, zat, zam, zae] <;> (try (intros; simp_all; done)) <;> (try (intros; omega)) <;> (try grind)))
end Go.Proofs.YtepiegcjnaohjaaGreatDoor
