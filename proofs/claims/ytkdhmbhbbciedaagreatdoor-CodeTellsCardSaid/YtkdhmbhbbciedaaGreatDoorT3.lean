import Derived.Test.YtkdhmbhbbciedaaGreatDoorT2
import Derived.Recover
import Derived.LaidMore
import Derived.LaidLaws
import Derived.LaidHandle
import Derived.MakeChecks
import Derived.Stop.Joined
import Derived.OpenShut
import Derived.Test.YtkdhmbhbbciedaaGreatDoorRows
import Derived.Laws.Bits64
import Derived.IntWalk
import Derived.Shelf.Strings.Builder1
import Derived.Shelf.Strings.BuilderF
import Derived.Shelf.Strings.BuilderK
import Derived.Shelf.Strconv.Atoi
import Derived.Shelf.Strconv.Itoa0
import Derived.Shelf.Strconv.Itoa1
import Derived.Shelf.LaysM
import Derived.Shelf.Strconv.Itoa2
import Derived.Shelf.Strconv.Itoa3
import Derived.Shelf.Strconv.AtoiErrFast
import Derived.Shelf.Strconv.ParseIntEmpty
import Derived.Shelf.Strconv.AtoiFail
import Derived.Shelf.Strconv.Clone
import Derived.Shelf.Strconv.SyntaxError
import Derived.Shelf.LaysC
import Derived.Shelf.Strconv.ToError
import Derived.Shelf.Strconv.AtoiErr
import Derived.Shelf.Strconv.ErrVar
import Derived.Shelf.Strconv.Lower
import Derived.Shelf.Strconv.ParseUint10
import Derived.Shelf.Strconv.ParseUint10Empty
import Derived.Shelf.Strconv.ParseUint10Any
import Derived.Shelf.Strconv.ParseInt10
import Derived.Shelf.Strconv.AtoiLong
import Derived.Shelf.Strconv.AtoiInnerAll
import Derived.Shelf.Strconv.RangeError
import Derived.Shelf.Strconv.ToErrorRange
import Derived.Shelf.Strconv.AtoiAll
import Derived.Shelf.Strconv.ErrVarAll
import Derived.Shelf.Strings.Search1
import Derived.Shelf.Strings.Search2
import Derived.Shelf.Strings.Search3
import Derived.Shelf.Strings.Cut
import Derived.Shelf.Strings.Shaped
import Derived.Shelf.Strings.Prefix
import Derived.Shelf.Bits.Mul64
import Derived.Shelf.Unicode.DecodeSlow
import Derived.Shelf.Slices.Turned
import Derived.Test.YtkdhmbhbbciedaaGreatDoorProg
import Derived.Lib.AppendStr
import Derived.Laws.IdiomStrings
set_option linter.all false
set_option maxRecDepth 100000
set_option maxHeartbeats 8000000
namespace Go.VL
open Go
inductive Out where
 | val (d : D)
 | pan (ch : List PanicEntry)
def zsM (k : Kr) (e : Ending) : Out -> Prop
 | .val d => ∃ v, e = .returned v /\ Rep k d v
 | .pan ch => e = .panicked ch
def RetX (P : Program) (f : FuncId) (ds : List D) (obs : List (Nat × Ob)) (nx : Nat) (post : Out -> List (Nat × Ob) -> Nat -> Prop) : Prop :=
 ∀ (k : Kr) (own : Nat -> Prop) (w : World) (vs : Array Value), Sat k own obs w -> (∀ i, nx <= i -> k.hdr i = none) -> (∀ b, w.heap.size <= b -> own b) -> RepL k ds vs ->
  Calls P f vs w fun e w' => ∃ r obs' nx' k', zsM k' e r /\ In (.of own k nx w) k' w' /\ Sat k' own obs' w' /\ (∀ i, nx' <= i -> k'.hdr i = none) /\ nx <= nx' /\ post r obs' nx'
theorem Ret.x {P f ds obs nx post} (h : Ret P f ds obs nx post) : RetX P f ds obs nx fun r o n => match r with | .val d => post d o n | .pan _ => False :=
 fun k own w vs h1 h2 h3 h4 => (h k own w vs h1 h2 h3 h4).mono fun _ _ ⟨v, d, o, n, k', e, a, b, c, g, r, hp⟩ => ⟨.val d, o, n, k', ⟨v, e, r⟩, a, b, c, g, hp⟩
theorem RetX.mono {P f ds obs nx} {p q : Out -> List (Nat × Ob) -> Nat -> Prop} (h : RetX P f ds obs nx p) (hq : ∀ r o n, p r o n -> q r o n) : RetX P f ds obs nx q :=
 fun k own w vs h1 h2 h3 h4 => (h k own w vs h1 h2 h3 h4).mono fun _ _ ⟨r, o, n, k', e, a, b, c, g, hp⟩ => ⟨r, o, n, k', e, a, b, c, g, hq _ _ _ hp⟩
theorem RetX.ret {P f ds obs nx} {p : Out -> List (Nat × Ob) -> Nat -> Prop} {q : D -> List (Nat × Ob) -> Nat -> Prop} (h : RetX P f ds obs nx p) (hv : ∀ d o n, p (.val d) o n -> q d o n) (hx : ∀ ch o n, ¬ p (.pan ch) o n) : Ret P f ds obs nx q :=
 fun k own w vs h1 h2 h3 h4 => (h k own w vs h1 h2 h3 h4).mono fun _ _ ⟨r, o, n, k', e, a, b, c, g, hp⟩ => by
  cases r with
  | val d =>
   obtain ⟨v, e, hr⟩ := e;exact ⟨v, d, o, n, k', e, a, b, c, g, hr, hv d o n hp⟩
  | pan ch => exact absurd hp (hx ch o n)
theorem RetX.congr {P f ds obs obs' nx post} (h : RetX P f ds obs nx post) (e : ∀ i, getK obs' i = getK obs i) : RetX P f ds obs' nx post :=
 fun k own w vs hsat hhdr hfresh hrep => h k own w vs (Sat.congr hsat fun i => (e i).symm) hhdr hfresh hrep
theorem zh4 {k k' : Kr} {own : Nat -> Prop} {obs F o1 : List (Nat × Ob)} {nx : Nat} {w w' : World} (hsat : Sat k own (F ++ obs) w)
  (hin : In (.of (fun b => own b /\ ¬ Blk k F b) k nx w) k' w') (hs1 : Sat k' (fun b => own b /\ ¬ Blk k F b) o1 w') : Sat k' own (F ++ o1) w' := by
 have hfo : ∀ i ob, getK F i = some ob -> getK (F ++ obs) i = some ob := fun i ob hi => by rw [zab, hi]
 have hFat : ∀ i ob, getK F i = some ob -> ∃ g, k.hdr i = some g /\ k'.hdr i = some g /\ (∀ b, g.1 = some b -> own b /\ (∀ o, k'.mem b o = none) /\ Blk k F b) /\ ObAt k' w' g ob := fun i ob hi => by
  obtain ⟨g, h1, h2, h3⟩ := hsat.ob i ob (hfo i ob hi);have hB : ∀ b, g.1 = some b -> Blk k F b := fun b hb => ⟨i, ob, g, hi, h1, hb⟩;refine ⟨g, h1, hin.le.hdr i g h1, fun b hb => ⟨(h2 b hb).1, fun o => ?_, hB b hb⟩, h3.keep hin.le fun b hb => hin.block b fun hb' => hb'.2 (hB b hb)⟩;cases hm : k'.mem b o with
  | none => rfl
  | some x =>
   rcases hin.memNew b o x hm with h4 | h4
   ·have h4' : k.mem b o = some x := h4;rw [(h2 b hb).2 o] at h4'; cases h4'
   ·exact absurd (hB b hb) h4.2
 refine ⟨hs1.mem, fun i ob hi => ?_, fun i j x y g g' b hx hy hij hg hg' hb => ?_⟩
 ·rw [zab] at hi;cases hf : getK F i with
  | some x =>
   rw [hf] at hi;cases hi;obtain ⟨g, _, h2, h3, h4⟩ := hFat i _ hf;exact ⟨g, h2, fun b hb => ⟨(h3 b hb).1, (h3 b hb).2.1⟩, h4⟩
  | none =>
   rw [hf] at hi;obtain ⟨g, h1, h2, h3⟩ := hs1.ob i ob hi;exact ⟨g, h1, fun b hb => ⟨(h2 b hb).1.1, (h2 b hb).2⟩, h3⟩
 ·rw [zab] at hx hy;cases hfx : getK F i with
  | some x' =>
   obtain ⟨g1, k1, k2, k3, _⟩ := hFat i _ hfx;rw [hg] at k2;cases k2;cases hfy : getK F j with
   | some y' =>
    obtain ⟨g2, l1, l2, l3, _⟩ := hFat j _ hfy;rw [hg'] at l2;cases l2;exact hsat.apart i j x' y' g g' b (hfo i _ hfx) (hfo j _ hfy) hij k1 l1 hb
   | none =>
    rw [hfy] at hy;obtain ⟨g2, l1, l2, _⟩ := hs1.ob j y hy;rw [hg'] at l1;cases l1;exact fun e => (l2 b e).1.2 (k3 b hb).2.2
  | none =>
   rw [hfx] at hx;cases hfy : getK F j with
   | some y' =>
    obtain ⟨g2, l1, l2, l3, _⟩ := hFat j _ hfy;rw [hg'] at l2;cases l2;obtain ⟨g1, k1, k2, _⟩ := hs1.ob i x hx;rw [hg] at k1;cases k1;exact fun e => (k2 b hb).1.2 (l3 b e).2.2
   | none =>
    rw [hfy] at hy;exact hs1.apart i j x y g g' b hx hy hij hg hg' hb
theorem zgG {k : Kr} {own : Nat -> Prop} {obs F : List (Nat × Ob)} {w : World} (hF : ∀ i ob, getK F i = some ob -> getK obs i = none) (hsat : Sat k own (F ++ obs) w) : Sat k (fun b => own b /\ ¬ Blk k F b) obs w := by
 have hob : ∀ i ob, getK obs i = some ob -> getK F i = none /\ getK (F ++ obs) i = some ob := fun i ob hi => by
  have hn : getK F i = none := by
   cases hf : getK F i with
   | none => rfl
   | some x => rw [hF i x hf] at hi; cases hi
  exact ⟨hn, by rw [zab, hn]; exact hi⟩
 have hfo : ∀ i ob, getK F i = some ob -> getK (F ++ obs) i = some ob := fun i ob hi => by rw [zab, hi]
 refine ⟨hsat.mem, fun i ob hi => ?_, fun i j x y g g' b hx hy hij => ?_⟩
 ·obtain ⟨hn, hi'⟩ := hob i ob hi;obtain ⟨g, h1, h2, h3⟩ := hsat.ob i ob hi';refine ⟨g, h1, fun b hb => ⟨⟨(h2 b hb).1, ?_⟩, (h2 b hb).2⟩, h3⟩;rintro ⟨j, oj, g', h4, h5, h6⟩;exact hsat.apart i j ob oj g g' b hi' (hfo j oj h4) (fun e => by subst e; rw [hn] at h4; cases h4) h1 h5 hb h6
 ·exact hsat.apart i j x y g g' b (hob i x hx).2 (hob j y hy).2 hij
theorem zfR {k : Kr} {own : Nat -> Prop} {obs F : List (Nat × Ob)} {w : World} (hsat : Sat k own (F ++ obs) w) (hfresh : ∀ b, w.heap.size <= b -> own b) : ∀ b, w.heap.size <= b -> own b /\ ¬ Blk k F b := fun b hb => by
 refine ⟨hfresh b hb, fun hB => ?_⟩;obtain ⟨i, ob, g, h1, h2, h3⟩ := hB;exact absurd (hsat.lt ⟨i, ob, g, by rw [zab, h1], h2, h3⟩) (by omega)
theorem zjL {k k' : Kr} {own : Nat -> Prop} {F : List (Nat × Ob)} {nx : Nat} {w w' : World} (hfresh : ∀ b, w.heap.size <= b -> own b) (hin : In (.of (fun b => own b /\ ¬ Blk k F b) k nx w) k' w') : In (.of own k nx w) k' w' :=
 ⟨hin.le, hin.none0, fun b o x hx => (hin.memNew b o x hx).imp id (·.1), hfresh, hin.os, hin.tape, hin.output, hin.size, fun b hb => hin.block b fun hb' => hb hb'.1⟩
theorem RetX.frame {P f ds obs nx post} (F : List (Nat × Ob)) (hF : ∀ i ob, getK F i = some ob -> getK obs i = none) (h : RetX P f ds obs nx post) :
  RetX P f ds (F ++ obs) nx (fun r o n => ∃ o1, o = F ++ o1 /\ post r o1 n) := by
 intro k own w vs hsat hhdr hfresh hrep;refine (h k _ w vs (zgG hF hsat) hhdr (zfR hsat hfresh) hrep).mono ?_;rintro e w' ⟨r, o1, n', k', he, hin, hs1, hh1, hle, hp⟩;exact ⟨r, F ++ o1, n', k', he, zjL hfresh hin, zh4 hsat hin hs1, hh1, hle, o1, rfl, hp⟩
theorem EffP.zvB {P Γ s k} {fop : Operand} {args : Array Operand} {ts : Array TypeId} {ty : TypeId} {f caps dst pos after} {ds : List D} {post : Out -> List (Nat × Ob) -> Nat -> Prop}
  (hf : zag (opd s fop) = some (f, caps)) (hc : zae P f = true) (hds : args.toList.map (opd s) ++ caps = ds) (hret : RetX P f ds s.obs s.next post) (hp : zat dst s)
  (hk : ∀ d obs' nx', s.next <= nx' -> post (.val d) obs' nx' -> k (({ s with obs := obs', next := nx' } : St).put dst d))
  (hx : ∀ ch obs' nx', s.next <= nx' -> post (.pan ch) obs' nx' -> ∃ s2, Wk Γ { s with obs := obs', next := nx' } s2 /\ Γ.pan ch s2) :
  EffP P Γ { dst, op := .call { callee := .value fop, args, argTypes := ts }, type := ty, pos, after, guard := none } s k := by
 intro K a w hin hs Kont Q hK hP;obtain ⟨vs, hrep, hrun⟩ := zjY hs (args := args) (ts := ts) (ty := ty) hf hc dst pos after none;rw [hds] at hrep;unfold Oper.wp;rw [hrun];refine Calls.mono (hret K Γ.own w vs hs.sat hs.hdr (fun b hb => hin.own_of_ge hb) hrep) ?_;rintro e w' ⟨r, obs', nx', k', hr, hin', hsat', hhdr', hnx, hpost⟩;have hle : K.le k' := hin'.le;have hin2 : In Γ k' w' := hin.step hle (fun b o v e => hin'.memNew b o v e) hin'.os hin'.tape hin'.output hin'.size hin'.block;have hsim : Sim k' Γ.own ({ s with obs := obs', next := nx' } : St) a w' := ⟨hsat', hs.defers, hs.size, fun x d hx => ⟨(hs.env x d hx).1, (hs.env x d hx).2.mono hle⟩, hhdr'⟩;cases r with
 | val d =>
  obtain ⟨v, rfl, hr⟩ := hr;exact hK k' _ w' _ hin2 (hsim.put (by cases dst <;> simp_all [zat]) hr) (hk d obs' nx' hnx hpost)
 | pan ch =>
  obtain rfl := hr;obtain ⟨s2, hw, hpn⟩ := hx ch obs' nx' hnx hpost;obtain ⟨k2, g1, g2⟩ := hw k' a w' hin2 hsim;exact hP ch k2 a w' s2 g1 g2 hpn
theorem CallP.x_ {P : Program} {Γ : Ctx} {s : St} {k : St -> Prop} {dst : Option Tmp} {fop : Operand} {args : List Operand} {f caps} {ds : List D} {post : Out -> List (Nat × Ob) -> Nat -> Prop} (hret : RetX P f ds s.obs s.next post)
  (hf : zag (opd s fop) = some (f, caps)) (hc : zae P f = true) (hds : args.map (opd s) ++ caps = ds) (hp : zat dst s)
  (hk : ∀ d obs' nx', s.next <= nx' -> post (.val d) obs' nx' -> k (({ s with obs := obs', next := nx' } : St).put dst d))
  (hx : ∀ ch obs' nx', s.next <= nx' -> post (.pan ch) obs' nx' -> ∃ s2, Wk Γ { s with obs := obs', next := nx' } s2 /\ Γ.pan ch s2) : CallP P Γ fop args dst s k :=
 fun _ _ _ _ => EffP.zvB hf hc hds hret hp hk hx
theorem CallP.xF {P : Program} {Γ : Ctx} {s : St} {k : St -> Prop} {dst : Option Tmp} {fop : Operand} {args : List Operand} {f caps} {ds : List D} {post : Out -> List (Nat × Ob) -> Nat -> Prop} (F obs : List (Nat × Ob)) (hret : RetX P f ds obs s.next post)
  (heq : ∀ i, getK s.obs i = getK (F ++ obs) i) (hF : ∀ i ob, getK F i = some ob -> getK obs i = none)
  (hf : zag (opd s fop) = some (f, caps)) (hc : zae P f = true) (hds : args.map (opd s) ++ caps = ds) (hp : zat dst s)
  (hk : ∀ d o1 nx', s.next <= nx' -> post (.val d) o1 nx' -> k (({ s with obs := F ++ o1, next := nx' } : St).put dst d))
  (hx : ∀ ch o1 nx', s.next <= nx' -> post (.pan ch) o1 nx' -> ∃ s2, Wk Γ { s with obs := F ++ o1, next := nx' } s2 /\ Γ.pan ch s2) : CallP P Γ fop args dst s k :=
 CallP.x_ ((hret.frame F hF).congr heq) hf hc hds hp (fun d o n hn ⟨o1, ho, hpo⟩ => by subst ho; exact hk d o1 n hn hpo) (fun ch o n hn ⟨o1, ho, hpo⟩ => by subst ho; exact hx ch o1 n hn hpo)
theorem CallP.x0 {P : Program} {Γ : Ctx} {s : St} {k : St -> Prop} {dst : Option Tmp} {fop : Operand} {args : List Operand} {f caps} {ds : List D} {post : Out -> List (Nat × Ob) -> Nat -> Prop} (hret : RetX P f ds [] s.next post)
  (hf : zag (opd s fop) = some (f, caps)) (hc : zae P f = true) (hds : args.map (opd s) ++ caps = ds) (hp : zat dst s)
  (hk : ∀ d o1 nx', s.next <= nx' -> post (.val d) o1 nx' -> k (({ s with obs := s.obs ++ o1, next := nx' } : St).put dst d))
  (hx : ∀ ch o1 nx', s.next <= nx' -> post (.pan ch) o1 nx' -> ∃ s2, Wk Γ { s with obs := s.obs ++ o1, next := nx' } s2 /\ Γ.pan ch s2) : CallP P Γ fop args dst s k :=
 CallP.xF s.obs [] hret (fun i => by simp) (fun i ob _ => rfl) hf hc hds hp hk hx
theorem CallP.x1 {P : Program} {Γ : Ctx} {s : St} {k : St -> Prop} {dst : Option Tmp} {fop : Operand} {args : List Operand} {f caps} {ds : List D} {post : Out -> List (Nat × Ob) -> Nat -> Prop} {j : Nat} {ob : Ob} (hret : RetX P f ds [(j, ob)] s.next post)
  (hj : getK s.obs j = some ob) (hf : zag (opd s fop) = some (f, caps)) (hc : zae P f = true) (hds : args.map (opd s) ++ caps = ds) (hp : zat dst s)
  (hk : ∀ d o1 nx', s.next <= nx' -> post (.val d) o1 nx' -> k (({ s with obs := del s.obs j ++ o1, next := nx' } : St).put dst d))
  (hx : ∀ ch o1 nx', s.next <= nx' -> post (.pan ch) o1 nx' -> ∃ s2, Wk Γ { s with obs := del s.obs j ++ o1, next := nx' } s2 /\ Γ.pan ch s2) : CallP P Γ fop args dst s k :=
 CallP.xF (del s.obs j) [(j, ob)] hret (fun i => by
  rw [zab, zac];by_cases h : i = j
  ·subst h; simp [hj, getK]
  ·simp only [if_neg h, getK];cases getK s.obs i <;> rfl) (fun i o hi => by
  rw [zac] at hi;by_cases h : i = j
  ·rw [if_pos h] at hi; cases hi
  ·simp [getK, h]) hf hc hds hp hk hx
theorem CallP.ok1 {P : Program} {Γ : Ctx} {s : St} {k : St -> Prop} {dst : Option Tmp} {fop : Operand} {args : List Operand} {f caps} {ds : List D} {j : Nat} {ob ob' : Ob} {d : D}
  (hret : RetX P f ds [(j, ob)] s.next fun r o n => r = .val d /\ o = [(j, ob')] /\ n = s.next)
  (hj : getK s.obs j = some ob) (hf : zag (opd s fop) = some (f, caps)) (hc : zae P f = true) (hds : args.map (opd s) ++ caps = ds) (hp : zat dst s)
  (hk : k (({ s with obs := del s.obs j ++ [(j, ob')], next := s.next } : St).put dst d)) : CallP P Γ fop args dst s k :=
 CallP.x1 hret hj hf hc hds hp (fun d' o1 nx' _ ⟨h1, h2, h3⟩ => by cases h1; subst h2; subst h3; exact hk) (fun ch o1 nx' _ ⟨h1, _⟩ => by cases h1)
theorem CallP.zht {P : Program} {Γ : Ctx} {s : St} {k : St -> Prop} {dst : Option Tmp} {fop : Operand} {args : List Operand} {f caps} {ds : List D} {j : Nat} {ob : Ob} {ch : List PanicEntry} {p : Ob -> Prop}
  (hret : RetX P f ds [(j, ob)] s.next fun r o n => r = .pan ch /\ (∃ ob', p ob' /\ o = [(j, ob')]) /\ n = s.next)
  (hj : getK s.obs j = some ob) (hf : zag (opd s fop) = some (f, caps)) (hc : zae P f = true) (hds : args.map (opd s) ++ caps = ds) (hp : zat dst s)
  (hx : ∀ ob', p ob' -> ∃ s2, Wk Γ { s with obs := del s.obs j ++ [(j, ob')], next := s.next } s2 /\ Γ.pan ch s2) : CallP P Γ fop args dst s k :=
 CallP.x1 hret hj hf hc hds hp (fun d' o1 nx' _ ⟨h1, _⟩ => by cases h1) (fun ch' o1 nx' _ ⟨h1, ⟨ob', h2, h3⟩, h4⟩ => by cases h1; subst h3; subst h4; exact hx ob' h2)
theorem CallP.x2 {P : Program} {Γ : Ctx} {s : St} {k : St -> Prop} {dst : Option Tmp} {fop : Operand} {args : List Operand} {f caps} {ds : List D} {post : Out -> List (Nat × Ob) -> Nat -> Prop} {j q : Nat} {ob oq : Ob} (hret : RetX P f ds [(j, ob), (q, oq)] s.next post)
  (hj : getK s.obs j = some ob) (hq : getK s.obs q = some oq) (hne : j ≠ q) (hf : zag (opd s fop) = some (f, caps)) (hc : zae P f = true) (hds : args.map (opd s) ++ caps = ds) (hp : zat dst s)
  (hk : ∀ d o1 nx', s.next <= nx' -> post (.val d) o1 nx' -> k (({ s with obs := del (del s.obs j) q ++ o1, next := nx' } : St).put dst d))
  (hx : ∀ ch o1 nx', s.next <= nx' -> post (.pan ch) o1 nx' -> ∃ s2, Wk Γ { s with obs := del (del s.obs j) q ++ o1, next := nx' } s2 /\ Γ.pan ch s2) : CallP P Γ fop args dst s k :=
 CallP.xF (del (del s.obs j) q) [(j, ob), (q, oq)] hret (fun i => by
  rw [zab, zac, zac];by_cases h : i = q
  ·subst h; rw [if_pos rfl]; simp [getK, Ne.symm hne, hq]
  ·rw [if_neg h];by_cases h2 : i = j
   ·subst h2; simp [hj, getK]
   ·simp only [if_neg h2, getK, if_neg h];cases getK s.obs i <;> rfl) (fun i o hi => by
  rw [zac, zac] at hi;by_cases h : i = q
  ·rw [if_pos h] at hi; cases hi
  ·rw [if_neg h] at hi;by_cases h2 : i = j
   ·rw [if_pos h2] at hi; cases hi
   ·simp [getK, h, h2]) hf hc hds hp hk hx
def Ctx.base (Γ : Ctx) : Ctx := .of Γ.own.own Γ.k0 Γ.n0 Γ.w0
def PanG (Γ : Ctx) (post : Out -> List (Nat × Ob) -> Nat -> Prop) (ch : List PanicEntry) (s : St) : Prop := ∃ s', Wk Γ s s' /\ Γ.n0 <= s'.next /\ post (.pan ch) s'.obs s'.next
def RX (Γ : Ctx) (post : Out -> List (Nat × Ob) -> Nat -> Prop) (e : Ending) (w' : World) : Prop :=
 ∃ r obs' nx' k', zsM k' e r /\ In Γ k' w' /\ Sat k' Γ.own obs' w' /\ (∀ i, nx' <= i -> k'.hdr i = none) /\ Γ.n0 <= nx' /\ post r obs' nx'
theorem zc8 {P Γ fn e s K a w} {post : Out -> List (Nat × Ob) -> Nat -> Prop} (hend : EndW P Γ fn Γ.n0 (fun d o n => post (.val d) o n) e s) (hin : In Γ K w) (hs : Sim K Γ.own s a w) :
  ∃ v, (results fn a.tmps).run P w = .ok v w /\ RX Γ post (.returned v) w := by
 obtain ⟨s', hw, _, hres⟩ := hend;obtain ⟨K', hin, hs⟩ := hw K a w hin hs;obtain ⟨rs, rv, hfin, hrun, hlen, hr⟩ := zhe hs _ _ hres;have hres' : (results fn a.tmps).run P w = .ok (if h : rv.toArray.size = 1 then rv.toArray[0] else .tuple rv.toArray) w := by
  unfold results;rw [Array.mapM_eq_mapM_toList];have e : (fn.results.toList.mapM fun (x : ResultVar) => match x with | .tmp t => (pure (a.tmps.getD t undef) : Sem Value) | .cell x t => do loadVar t (<- asAddr (a.tmps.getD x undef))).run P w = .ok rv w := hrun;simp only [Sem.run_bind, Sem.run_map, Result.andThen_ok]
  erw [e]
  simp
 have hrepv : Rep K' (zao rs) (if h : rv.toArray.size = 1 then rv.toArray[0] else .tuple rv.toArray) := by
  match rs, rv, hlen, hr with
  | [], [], _, hr => exact .tup [] [] rfl (by simp)
  | [d], [v], _, hr => simpa [zao] using hr 0 d rfl
  | d :: d1 :: ds, v :: v1 :: vs, hlen, hr =>
   simp only [zao];rw [dif_neg (by simp)];exact .tup _ _ hlen hr
 refine ⟨_, hres', ?_⟩;rcases hfin with ⟨s2, ρ, d', hle, hd, hu, hnx, hpost⟩ | ⟨hnx, hpost⟩
 ·obtain ⟨h1, h2⟩ := Sim.weak hin hs hle;exact ⟨.val d', s2.obs, s2.next, _, ⟨_, rfl, hrepv.weak hd hu⟩, h1, h2.sat, h2.hdr, hnx, hpost⟩
 ·exact ⟨.val _, s'.obs, s'.next, K', ⟨_, rfl, hrepv⟩, hin, hs.sat, hs.hdr, hnx, hpost⟩
theorem RX.conv {Γ Γ' : Ctx} {post e w'} (h : RX Γ post e w') (h1 : Γ'.own.own = Γ.own.own) (h2 : Γ'.k0 = Γ.k0) (h3 : Γ'.n0 = Γ.n0) (h4 : Γ'.w0 = Γ.w0) : RX Γ' post e w' := by
 obtain ⟨r, o, n, k', a, b, c, d, e, f⟩ := h;exact ⟨r, o, n, k', a, b.conv h1 h2 h3 h4, by rw [h1]; exact c, d, by rw [h3]; exact e, f⟩
theorem Wk.conv {Γ Γ' : Ctx} {s s'} (h : Wk Γ s s') (h1 : Γ'.own = Γ.own) (h2 : Γ'.k0 = Γ.k0) (h3 : Γ'.n0 = Γ.n0) (h4 : Γ'.w0 = Γ.w0) : Wk Γ' s s' := fun K a w hin hs => by
 obtain ⟨K', g1, g2⟩ := h K a w (hin.conv (by rw [h1]) h2.symm h3.symm h4.symm) (by rw [<- h1]; exact hs);exact ⟨K', g1.conv (by rw [h1]) h2 h3 h4, by rw [h1]; exact g2⟩
theorem RetX.zfD {P f fn c ds obs nx post} (hf : P.funcs[f]? = some fn) (hb : fn.body = some c) (hn : ds.length <= fn.ntmps)
  (h : ∀ Γ : Ctx, Γ.n0 = nx -> Γ.own.dfr = [] -> (∀ ch s, PanG Γ post ch s -> Γ.pan ch s) -> (∀ e a w', bodyPostD P fn (RX Γ.base post) e a w' -> Γ.esc e a w') -> V P Γ c (entry ds fn.ntmps obs nx) (zaX P Γ (EndW P Γ fn nx fun d o n => post (.val d) o n) .done)) : RetX P f ds obs nx post := by
 intro k own w vs hsat hhdr hfresh hrep;have hsz : vs.size = ds.length := hrep.1
 let Γ0 : Ctx := .of own k nx w
 let Γ : Ctx := ⟨⟨own, []⟩, k, nx, w, PanG Γ0 post, bodyPostD P fn (RX Γ0 post)⟩
 have hpan : ∀ ch s, PanG Γ post ch s -> Γ.pan ch s := fun ch s ⟨s', h1, h2, h3⟩ => ⟨s', h1.conv rfl rfl rfl rfl, h2, h3⟩;have hR : ∀ e w', RX Γ post e w' -> RX Γ0 post e w' := fun e w' h => h.conv rfl rfl rfl rfl;have hesc : ∀ e a w', bodyPostD P fn (RX Γ.base post) e a w' -> Γ.esc e a w' := fun e a w' h => h;refine calls_of_wp_defers (R := RX Γ0 post) hf hb (wp_mono (h Γ rfl rfl hpan hesc k _ w ⟨.refl _, hhdr, fun b o v e => .inl e, hfresh, rfl, rfl, rfl, Nat.le_refl _, fun _ _ => rfl⟩
  ⟨hsat, rfl, ?_, fun x d hx => ?_, hhdr⟩) ?_)
 ·simp [entry, hsz]; omega
 ·simp only [entry, zei, Nat.zero_le, if_true, Nat.sub_zero] at hx;have hlt := (List.getElem?_eq_some_iff.1 hx).1;refine ⟨by simp [entry]; omega, ?_⟩;have := hrep.2 x d hx;have e : (vs ++ Array.replicate (fn.ntmps - vs.size) undef).getD x undef = vs.getD x undef := by
   simp [Array.getElem?_append, show x < vs.size by omega]
  rw [e];exact this
 ·rintro e a' w' (⟨K', s', hin, hs, hend⟩ | hx)
  ·have hd : a'.defers = [] := hs.defers;cases e with
   | panic ch =>
    obtain ⟨s2, hw, hn2, hp⟩ := (hend : PanG Γ0 post ch s');obtain ⟨K2, h1, h2⟩ := hw K' a' w' (hin.conv rfl rfl rfl rfl) hs;show Leaves P fn a'.tmps (RX Γ0 post) a'.defers (.panicking ch) w';rw [hd];exact ⟨.pan ch, s2.obs, s2.next, K2, rfl, h1, h2.sat, h2.hdr, hn2, hp⟩
   | normal =>
    obtain ⟨v, h1, h2⟩ := zc8 (Γ := Γ) (post := post) hend hin hs;show Leaves P fn a'.tmps (RX Γ0 post) a'.defers .returning w';rw [hd];exact ⟨v, h1, hR _ _ h2⟩
   | ret =>
    obtain ⟨v, h1, h2⟩ := zc8 (Γ := Γ) (post := post) hend hin hs;show Leaves P fn a'.tmps (RX Γ0 post) a'.defers .returning w';rw [hd];exact ⟨v, h1, hR _ _ h2⟩
   | exit i => obtain ⟨_, _, h1, _⟩ := hend; rcases h1 with h1 | h1 <;> cases h1
   | goto i => obtain ⟨_, _, h1, _⟩ := hend; rcases h1 with h1 | h1 <;> cases h1
   | outgrown => obtain ⟨_, _, h1, _⟩ := hend; rcases h1 with h1 | h1 <;> cases h1
  ·exact hx.2
theorem RetX.of_bodyW {P f fn c ds obs nx post} (hf : P.funcs[f]? = some fn) (hb : fn.body = some c) (hn : ds.length <= fn.ntmps)
  (h : ∀ Γ : Ctx, Γ.n0 = nx -> (∀ ch s, PanG Γ post ch s -> Γ.pan ch s) -> V P Γ c (entry ds fn.ntmps obs nx) (zaX P Γ (EndW P Γ fn nx fun d o n => post (.val d) o n) .done)) : RetX P f ds obs nx post :=
 RetX.zfD hf hb hn fun Γ h1 _ h2 _ => h Γ h1 h2
end Go.VL
namespace Go.VL
open Go
@[irreducible] def zqE (c : Code) : Code := c
theorem zeR (c : Code) : zqE c = c := by unfold zqE; rfl
theorem zfx {id : Nat} {o1 : Oper} {dst : Option Tmp} {cl : Call} {type : TypeId} {pos : String} {after : Array Edge} {guard : Option (Nat × Bool)} {rest : Code} :
  Code.seq (.region id #[o1, { dst, op := .defer cl, type, pos, after, guard }] false) rest = zqE (.seq (.region id #[o1, { dst, op := .defer cl, type, pos, after, guard }] false) rest) := (zeR _).symm
def RetDf (P : Program) (g : FuncId) (caps : List D) (obs : List (Nat × Ob)) (nx : Nat) (u : FrameMode) (post : FrameMode -> List (Nat × Ob) -> Nat -> Prop) : Prop :=
 ∀ (k : Kr) (own : Nat -> Prop) (w : World) (vs : Array Value), Sat k own obs w -> (∀ i, nx <= i -> k.hdr i = none) -> (∀ b, w.heap.size <= b -> own b) -> RepL k caps vs ->
  CallsD P g vs u w fun e u' w' => ∃ v obs' nx' k', e = .returned v /\ In (.of own k nx w) k' w' /\ Sat k' own obs' w' /\ (∀ i, nx' <= i -> k'.hdr i = none) /\ nx <= nx' /\ post u' obs' nx'
theorem RetDf.mono {P g caps obs nx u} {p q : FrameMode -> List (Nat × Ob) -> Nat -> Prop} (h : RetDf P g caps obs nx u p) (hq : ∀ u o n, p u o n -> q u o n) : RetDf P g caps obs nx u q :=
 fun k own w vs h1 h2 h3 h4 => (h k own w vs h1 h2 h3 h4).mono fun _ _ _ ⟨v, o, n, k', e, a, b, c, d, hp⟩ => ⟨v, o, n, k', e, a, b, c, d, hq _ _ _ hp⟩
theorem RetDf.congr {P g caps obs obs' nx u post} (h : RetDf P g caps obs nx u post) (e : ∀ i, getK obs' i = getK obs i) : RetDf P g caps obs' nx u post :=
 fun k own w vs hsat hhdr hfresh hrep => h k own w vs (Sat.congr hsat fun i => (e i).symm) hhdr hfresh hrep
theorem RetDf.frame {P g caps obs nx u post} (F : List (Nat × Ob)) (hF : ∀ i ob, getK F i = some ob -> getK obs i = none) (h : RetDf P g caps obs nx u post) :
  RetDf P g caps (F ++ obs) nx u (fun u o n => ∃ o1, o = F ++ o1 /\ post u o1 n) := by
 intro k own w vs hsat hhdr hfresh hrep;refine (h k _ w vs (zgG hF hsat) hhdr (zfR hsat hfresh) hrep).mono ?_;rintro e u' w' ⟨v, o1, n', k', he, hin, hs1, hh1, hle, hp⟩;exact ⟨v, F ++ o1, n', k', he, zjL hfresh hin, zh4 hsat hin hs1, hh1, hle, o1, rfl, hp⟩
def LeaveD (P : Program) (Γb : Ctx) (fn : Func) (post : Out -> List (Nat × Ob) -> Nat -> Prop) (g : FuncId) (caps : List D) (u : FrameMode) (s : St) : Prop :=
 RetDf P g caps s.obs s.next u fun u' o n => settle u' = .returning /\ EndW P Γb fn Γb.n0 (fun d o n => post (.val d) o n) .ret { s with obs := o, next := n }
def zyA (P : Program) (Γb : Ctx) (fn : Func) (post : Out -> List (Nat × Ob) -> Nat -> Prop) (g : FuncId) (caps : List D) (e : Exit) (s : St) : Prop := e = .ret /\ LeaveD P Γb fn post g caps .returning s
theorem zn2 {P Γ Γ' fn post g caps u s K K1 a w w1} (hmode : u ≠ .run) (h : LeaveD P Γ.base fn post g caps u s) (hin1 : In Γ K1 w1) (hin : In Γ' K w) (hs : Sim K Γ'.own s a w) (ho : Γ'.own.own = Γ.own.own) (hk : Γ'.k0 = K1) (hn : ∀ i, Γ'.n0 <= i -> K1.hdr i = none) (hw : Γ'.w0 = w1)
  (hc : zae P g = true) (vs : Array Value) (hrep : RepL K1 caps vs) :
  Leaves P fn a.tmps (RX Γ.base post) [{ target := .fn (.func g) vs, args := #[] }] u w := by
 have hle1 : K1.le K := by rw [<- hk]; exact hin.le
 have hin0 : In Γ K w := hin1.step hle1 (fun b o v e => by have := hin.memNew b o v e; rw [hk, ho] at this; exact this) (by rw [hin.os, hw]) (by rw [hin.tape, hw]) (by rw [hin.output, hw]) (by have := hin.size; rw [hw] at this; exact this)
  (fun b hb => by have := hin.block b (by rw [ho]; exact hb); rw [hw] at this; exact this)
 refine leaves_cons (f := g) (args := vs) hmode ?_ ?_
 ·unfold zae at hc;split at hc
  ·rename_i fn' hfn;simp at hc;obtain ⟨hb, hname⟩ := hc;have hb' : fn'.body.isNone = false := by cases hbb : fn'.body <;> simp_all
   simp [invoke, callFunc, hfn, hb', hname];intro h0;rw [h0] at hb;simp at hb
  ·cases hc
 ·refine (h K Γ'.own.own w vs hs.sat hs.hdr (fun b hb => by rw [ho]; exact hin0.own_of_ge hb) ⟨hrep.1, fun j d hj => (hrep.2 j d hj).mono hle1⟩).mono ?_;rintro e u' w' ⟨v, o, n, k', rfl, hin2, hsat, hhdr, hnx, hset, hend⟩;rw [ho] at hin2 hsat;have hin3 : In Γ k' w' := hin0.step hin2.le (fun b o v e => hin2.memNew b o v e) hin2.os hin2.tape hin2.output hin2.size hin2.block;have hsim : Sim k' Γ.base.own ({ s with obs := o, next := n } : St) { a with defers := [] } w' := ⟨hsat, rfl, hs.size, fun x d hx => ⟨(hs.env x d hx).1, (hs.env x d hx).2.mono hin2.le⟩, hhdr⟩;obtain ⟨v', h1, h2⟩ := zc8 (Γ := Γ.base) (post := post) hend (hin3.conv rfl rfl rfl rfl) hsim;show Leaves P fn a.tmps (RX Γ.base post) [] (settle u') w';rw [hset];exact ⟨v', h1, h2⟩
theorem zj2 {P Γ fn post s Q kt id g t type pos after type2 pos2 after2 rest} {ts : Array TypeId} {caps : List Operand}
  (hesc : ∀ e a w', bodyPostD P fn (RX Γ.base post) e a w' -> Γ.esc e a w') (hd : Γ.own.dfr = []) (hc : zae P g = true) (ht : t < s.n)
  (h : ∀ Γ' : Ctx, Γ'.n0 = s.next -> (∀ ch s2, LeaveD P Γ.base fn post g (caps.map (opd s)) (.panicking ch) s2 -> Γ'.pan ch s2) ->
    V P Γ' rest (s.put (some t) (.fnc (.func g) (caps.map (opd s)))) (zaX P Γ' (zyA P Γ.base fn post g (caps.map (opd s))) .done)) :
  V P Γ (zqE (.seq (.region id #[{ dst := some t, op := .makeFunc (.func g) #[] caps.toArray, type := type, pos := pos, after := after, guard := none },
   { dst := none, op := .defer { callee := .value (.tmp t), args := #[], argTypes := ts }, type := type2, pos := pos2, after := after2, guard := none }] false) rest)) s (zaX P Γ Q kt) := by
 rw [zeR];intro K a w hin hs;refine wp_seq (wp_region_lit ?_);have hrep : RepL K (caps.map (opd s)) (caps.map a.eval).toArray := ⟨by simp, fun j d hj => by have := zfe hs caps j d hj; simpa using this⟩;have hfv : Rep K (.fnc (.func g) (caps.map (opd s))) (.func (.func g) #[] (caps.map a.eval).toArray) := .fnc _ _ _ (by simp) (zfe hs caps);have hts : t < a.tmps.size := by rw [hs.size]; exact ht
 refine wpList_plain rfl fun K1 hK1 => ?_;have hrun1 : (execOp a.eval { dst := some t, op := .makeFunc (.func g) #[] caps.toArray, type := type, pos := pos, after := after, guard := none }).run P w = .ok (.value (.func (.func g) #[] (caps.map a.eval).toArray)) w := by
  simp [execOp, Instr.makeFunc]
 unfold Oper.wp;rw [hrun1];refine hK1 _ _ (wpList_plain rfl fun K2 hK2 => ?_);generalize ha1 : (a.put (some t) (.func (.func g) #[] (caps.map a.eval).toArray)) = a1;have hev : a1.eval (.tmp t) = .func (.func g) #[] (caps.map a.eval).toArray := by
  subst ha1;simp [Act.eval, Act.put, hts]
 have hrun2 : (execOp a1.eval { dst := none, op := .defer { callee := .value (.tmp t), args := #[], argTypes := ts }, type := type2, pos := pos2, after := after2, guard := none }).run P w = .ok (.defer { target := .fn (.func g) (caps.map a.eval).toArray, args := #[] }) w := by
  simp [execOp, resolve, hev, Deferred.ofValue]
 unfold Oper.wp;rw [hrun2];refine hK2 _ _ ?_
 let Γ' : Ctx := ⟨⟨Γ.own.own, [{ target := .fn (.func g) (caps.map a.eval).toArray, args := #[] }]⟩, K, s.next, w, fun ch s2 => LeaveD P Γ.base fn post g (caps.map (opd s)) (.panicking ch) s2, fun _ _ _ => False⟩
 have hin' : In Γ' K w := ⟨.refl _, hs.hdr, fun b o v e => .inl e, fun b hb => hin.own_of_ge hb, rfl, rfl, rfl, Nat.le_refl _, fun _ _ => rfl⟩;have hs1 : Sim K Γ.own (s.put (some t) (.fnc (.func g) (caps.map (opd s)))) a1 w := by
  subst ha1;exact hs.put (by simpa [zat] using ht) hfv
 have hs' : Sim K Γ'.own (s.put (some t) (.fnc (.func g) (caps.map (opd s)))) (({ a1 with defers := { target := .fn (.func g) (caps.map a.eval).toArray, args := #[] } :: a1.defers } : Act).put none undef) w :=
  ⟨hs1.sat, by have := hs1.defers; rw [hd] at this; show _ :: a1.defers = _; rw [this], hs1.size, hs1.env, hs1.hdr⟩
 refine wp_mono (h Γ' rfl (fun ch s2 h => h) K _ w hin' hs') ?_;rintro e a' w' (⟨K', s', h1, h2, h3⟩ | h3)
 ·have hdf : a'.defers = [{ target := .fn (.func g) (caps.map a.eval).toArray, args := #[] }] := h2.defers;have go : ∀ u, u ≠ .run -> LeaveD P Γ.base fn post g (caps.map (opd s)) u s' -> Leaves P fn a'.tmps (RX Γ.base post) a'.defers u w' := fun u hu hl => by
   rw [hdf];exact zn2 hu hl hin h1 h2 rfl rfl hs.hdr rfl hc _ hrep
  cases e with
  | panic ch => exact .inr ⟨trivial, hesc _ _ _ (go (.panicking ch) (by simp) h3)⟩
  | ret => exact .inr ⟨trivial, hesc _ _ _ (go .returning (by simp) h3.2)⟩
  | normal => exact absurd h3.1 (by simp)
  | exit i => exact absurd h3.1 (by simp)
  | goto i => exact absurd h3.1 (by simp)
  | outgrown => exact absurd h3.1 (by simp)
 ·exact h3.2.elim
def HS (P : Program) (Γ : Ctx) : List Oper -> St -> (St -> Prop) -> Prop
 | [], s, k => k s
 | o :: l, s, k => o.guard = none /\ zb4 P Γ o.dst o.op s fun s' => HS P Γ l s' k
theorem zsz {P Γ cs} {Q : Exit -> Act -> List Frame -> World -> Prop} {k : St -> Prop} (ops : Array Oper) : ∀ (l : List Oper) (i : Nat) (s : St) (K : Kr) (a : Act) (w : World), (∀ j, ops[i + j]? = l[j]?) -> HS P Γ l s k -> In Γ K w -> Sim K Γ.own s a w ->
  (∀ K' a' w' s', In Γ K' w' -> Sim K' Γ.own s' a' w' -> k s' -> Q .normal a' cs w') -> (∀ ch K' a' w' s', In Γ K' w' -> Sim K' Γ.own s' a' w' -> Γ.pan ch s' -> Q (.panic ch) a' cs w') ->
  wpOpsS P ops Q (List.range' i l.length) a cs w
 | [], i, s, K, a, w, _, h, hin, hs, hQ, _ => by simpa [wpOpsS] using hQ K a w s hin hs h
 | o :: l, i, s, K, a, w, ho, h, hin, hs, hQ, hP => by
  have h0 : ops[i]? = some o := by simpa using ho 0
  obtain ⟨hg, hst⟩ := h;rw [List.length_cons, List.range'_succ];unfold wpOpsS;rw [h0];simp only [Region.wanted, hg, if_true];have hw := zeB hst K a w hin hs (fun a' w' => wpOpsS P ops Q (List.range' (i + 1) l.length) a' cs w') (fun e a' w' => Q e a' cs w')
   (fun K' a' w' s' h1 h2 h3 => zsz ops l (i + 1) s' K' a' w' (fun j => by have := ho (j + 1); simpa [Nat.add_assoc, Nat.add_comm 1 j] using this) h3 h1 h2 hQ hP) hP
  unfold Oper.wp at hw;split
  ·rename_i w' hr;rw [hr] at hw;exact hw.elim
  ·exact hw
def znD : FrameMode -> Value × FrameMode
 | .panicking ({ v, recovered := false, goexit := false } :: older) => (v, .panicking ({ v, recovered := true } :: older))
 | u => (.nilIface, u)
def zv3 (Γ : Ctx) (post : FrameMode -> List (Nat × Ob) -> Nat -> Prop) (u' : FrameMode) (e : Exit) (s : St) : Prop := (e = .normal \/ e = .ret) /\ ∃ s', Wk Γ s s' /\ Γ.n0 <= s'.next /\ post u' s'.obs s'.next
theorem RetDf.of_body {P g fn caps obs nx u post id x type pos after l rest} (hf : P.funcs[g]? = some fn)
  (hb : fn.body = some (.seq (.region id ({ dst := some x, op := .call { callee := .builtin .recover, args := #[], argTypes := #[] }, type := type, pos := pos, after := after, guard := none } :: l : List Oper).toArray false) rest))
  (hn : caps.length <= fn.ntmps) (hx : x < fn.ntmps) (hres : fn.results = #[])
  (h : ∀ Γ : Ctx, Γ.n0 = nx -> HS P Γ l ((entry caps fn.ntmps obs nx).put (some x) (.u (.oth (znD u).1))) fun s' => V P Γ rest s' (zaX P Γ (zv3 Γ post (znD u).2) .done)) : RetDf P g caps obs nx u post := by
 intro k own w vs hsat hhdr hfresh hrep;have hsz : vs.size = caps.length := hrep.1
 let Γ : Ctx := .of own k nx w
 have hin : In Γ k w := ⟨.refl _, hhdr, fun b o v e => .inl e, hfresh, rfl, rfl, rfl, Nat.le_refl _, fun _ _ => rfl⟩;have hs : Sim k Γ.own (entry caps fn.ntmps obs nx) { tmps := vs ++ Array.replicate (fn.ntmps - vs.size) undef, defers := [] } w := by
  refine ⟨hsat, rfl, ?_, fun y d hy => ?_, hhdr⟩
  ·simp [entry, hsz]; omega
  ·simp only [entry, zei, Nat.zero_le, if_true, Nat.sub_zero] at hy;have hlt := (List.getElem?_eq_some_iff.1 hy).1;refine ⟨by simp [entry]; omega, ?_⟩;have := hrep.2 y d hy;have e : (vs ++ Array.replicate (fn.ntmps - vs.size) undef).getD y undef = vs.getD y undef := by
    simp [Array.getElem?_append, show y < vs.size by omega]
   rw [e];exact this
 refine callsD_of_wpS hf hb fun c0 cs hm => wpS_seq (wpS_region ?_);have hsize : ({ dst := some x, op := .call { callee := .builtin .recover, args := #[], argTypes := #[] }, type := type, pos := pos, after := after, guard := none } :: l : List Oper).toArray.size = l.length + 1 := by simp
 rw [hsize, List.range_eq_range', List.range'_succ];generalize hops : ({ dst := some x, op := .call { callee := .builtin .recover, args := #[], argTypes := #[] }, type := type, pos := pos, after := after, guard := none } :: l : List Oper).toArray = ops;have h0 : ops[0]? = some { dst := some x, op := .call { callee := .builtin .recover, args := #[], argTypes := #[] }, type := type, pos := pos, after := after, guard := none } := by rw [<- hops]; simp
 unfold wpOpsS;rw [h0];have hrun : ∀ ρ : Operand -> Value, (execOp ρ { dst := some x, op := .call { callee := .builtin .recover, args := #[], argTypes := #[] }, type := type, pos := pos, after := after, guard := none }).run P w = .ok .recover w := fun ρ => by
  simp [execOp, resolve, invoke, builtin]
 simp only [Region.wanted, if_true, hrun];have hrec : recoverD (c0 :: cs) = some ((znD u).1, { c0 with mode := (znD u).2 } :: cs) \/ (recoverD (c0 :: cs) = none /\ (znD u).1 = .nilIface /\ { c0 with mode := (znD u).2 } = c0) := by
  subst hm;have same : ∀ m, c0.mode = m -> ({ c0 with mode := m } : Frame) = c0 := fun m h => by rw [<- h]
  cases hmo : c0.mode with
  | run => exact .inr ⟨by simp [recoverD, hmo], rfl, same _ hmo⟩
  | returning => exact .inr ⟨by simp [recoverD, hmo], rfl, same _ hmo⟩
  | panicking ch =>
   cases ch with
   | nil => exact .inr ⟨by simp [recoverD, hmo], rfl, same _ hmo⟩
   | cons e older =>
    obtain ⟨v, r, g⟩ := e;cases r <;> cases g
    ·exact .inl (by simp [recoverD, hmo, znD])
    ·exact .inr ⟨by simp [recoverD, hmo], rfl, same _ hmo⟩
    ·exact .inr ⟨by simp [recoverD, hmo], rfl, same _ hmo⟩
    ·exact .inr ⟨by simp [recoverD, hmo], rfl, same _ hmo⟩
 have main : wpOpsS P ops (Exit.thenS (rest.wpS P (bodyPostS P fn c0 cs fun e u' w' => ∃ v obs' nx' k', e = .returned v /\ In (.of own k nx w) k' w' /\ Sat k' own obs' w' /\ (∀ i, nx' <= i -> k'.hdr i = none) /\ nx <= nx' /\ post u' obs' nx'))
   (bodyPostS P fn c0 cs fun e u' w' => ∃ v obs' nx' k', e = .returned v /\ In (.of own k nx w) k' w' /\ Sat k' own obs' w' /\ (∀ i, nx' <= i -> k'.hdr i = none) /\ nx <= nx' /\ post u' obs' nx')) (List.range' (0 + 1) l.length)
   (Act.put { tmps := vs ++ Array.replicate (fn.ntmps - vs.size) undef, defers := [] } (some x) (znD u).1) ({ c0 with mode := (znD u).2 } :: cs) w := by
  refine zsz ops l (0 + 1) _ k _ w (fun j => by rw [<- hops]; simp [Nat.add_comm 1 j]) (h Γ rfl) hin (hs.put (by simpa [zat, entry] using hx) (.u _ _ (.oth _))) (fun K' a' w' s' h1 h2 h3 => ?_) (fun ch K' a' w' s' _ _ h3 => h3.elim);refine wpS_of_wp (wp_mono (h3 K' a' w' h1 h2) ?_);rintro e a2 w2 (⟨K2, s2, g1, g2, g3⟩ | g3)
  ·have hd2 : a2.defers = [] := g2.defers;have fin : zv3 Γ post (znD u).2 e s2 -> a2.defers = [] /\ ∃ u', ({ c0 with mode := (znD u).2 } :: cs : List Frame) = { c0 with mode := u' } :: cs /\ ∃ v, (results fn a2.tmps).run P w2 = .ok v w2 /\
     ∃ v' obs' nx' k', Ending.returned v = .returned v' /\ In (.of own k nx w) k' w2 /\ Sat k' own obs' w2 /\ (∀ i, nx' <= i -> k'.hdr i = none) /\ nx <= nx' /\ post u' obs' nx' := fun ⟨_, s3, hw, hnx, hp⟩ => by
    obtain ⟨K3, q1, q2⟩ := hw K2 a2 w2 g1 g2;exact ⟨hd2, _, rfl, .tuple #[], by simp [results, hres], _, s3.obs, s3.next, K3, rfl, q1, q2.sat, q2.hdr, hnx, hp⟩
   cases e with
   | normal => exact fin g3
   | ret => exact fin g3
   | panic ch => exact g3.elim
   | exit i => rcases g3.1 with h | h <;> cases h
   | goto i => rcases g3.1 with h | h <;> cases h
   | outgrown => rcases g3.1 with h | h <;> cases h
  ·exact g3.2.elim
 rcases hrec with hr | ⟨hr, h1, h2⟩
 ·rw [hr];exact main
 ·rw [hr];rw [h1, h2] at main;exact main
end Go.VL
namespace Go.VL
open Go
def ztO (P : Program) (Γ : Ctx) (s : St) (op : Op) : Prop :=
 ∀ s' : St, s'.n = s.n -> (∀ y, getK s'.obs y = getK s.obs y) -> (∀ x ∈ op.operands, opd s' x = opd s x) -> s.next <= s'.next -> ∀ o : Oper, o.op = op -> o.guard = none -> zat o.dst s' -> EffP P Γ o s' fun _ => False
def ztZ (P : Program) (N : Nat) (s : St) (op : Op) (d : D) (W : Wr) (R : List Nat) : Prop :=
 ∃ fop args f caps, ∃ (O O' : List (Nat × Ob)) (L : List Nat), zbk op = some (fop, args) /\ zag (opd s fop) = some (f, caps) /\ zae P f = true /\ R = O.map (·.1) /\ (∀ y, y ∈ zeG W ↔ L.contains y = true /\ y ∈ O.map (·.1)) /\ (∀ y, y ∈ zeG W -> getK W y = some (getK O' y)) /\
  (∀ y, L.contains y = false -> getK O' y = getK O y) /\ (∀ p ∈ O, getK s.obs p.1 = some p.2) /\ (O.map (·.1)).Nodup /\ (d.under N = true /\ ∀ p ∈ O', p.2.under N = true) /\
  ∀ nx, s.next <= nx -> RetX P f (args.map (opd s) ++ caps) O nx fun r o n => r = .val d /\ (∀ y, getK o y = getK O' y) /\ n = nx
def zvD (P : Program) (N : Nat) (s : St) (op : Op) (d : D) (W : Wr) (cr : Option Nat) (R : List Nat) : Prop :=
 ∃ fop args f caps, ∃ (O : List (Nat × Ob)) (e : ERes) (nb : Ob) (x0 : Nat), zbk op = some (fop, args) /\ zag (opd s fop) = some (f, caps) /\ zae P f = true /\ R = O.map (·.1) /\ (e.U = [] /\ e.nw = some nb /\ nb.under N = true) /\
  (cr = some x0 /\ W = (x0, some nb) :: e.U /\ d = mkD e.how x0) /\ (∀ p ∈ O, getK s.obs p.1 = some p.2) /\
  ∀ nx, s.next <= nx -> RetX P f (args.map (opd s) ++ caps) O nx fun r o n => r = .val (mkD e.how nx) /\ (∀ y, getK o y = getK ((nx, nb) :: O) y) /\ n = nx + 1
def ztR (P : Program) (N : Nat) (s : St) (op : Op) (dst : Option Tmp) (d : D) (W : Wr) (cr : Option Nat) (R : List Nat) : Prop :=
 Op1 P s op dst d W cr R \/ (ztZ P N s op d W R /\ cr = none) \/ zvD P N s op d W cr R
def zuL (P : Program) (N : Nat) (all : Array Oper) (s : St) (o : Oper) (d : D) (W : Wr) (cr : Option Nat) (R : List Nat) : Prop :=
 match o.guard with
 | none => ztR P N s o.op o.dst d W cr R
 | some (j, want) => ∃ t, zaS all j = some t /\ ((∃ b, getK s.env t = some (.u (.bool b)) /\
  if b = want then ztR P N s o.op o.dst d W cr R else d = .un /\ W = [] /\ cr = none) \/ (getK s.env t = some .un /\ d = .un /\ W = [] /\ cr = none))
theorem zc7 {α : Type} (l : List (Nat × α)) (c : List Nat) (y : Nat) : getK (l.filter fun p => !c.contains p.1) y = if c.contains y = true then none else getK l y := by
 induction l with
 | nil => simp [getK]
 | cons p l ih =>
  obtain ⟨k, x⟩ := p;rw [List.filter_cons];by_cases hk : c.contains k = true
  ·rw [if_neg (by simpa using hk), ih, zaa];by_cases hy : y = k
   ·subst hy; rw [if_pos hk, if_pos hk]
   ·rw [if_neg hy]
  ·rw [if_pos (by simpa using hk), zaa, zaa, ih];by_cases hy : y = k
   ·subst hy; rw [if_pos rfl, if_pos rfl, if_neg hk]
   ·rw [if_neg hy, if_neg hy]
theorem zk5 {α : Type} (l : List (Nat × α)) (c : List Nat) (y : Nat) : getK (l.filter fun p => c.contains p.1) y = if c.contains y = true then getK l y else none := by
 induction l with
 | nil => simp [getK]
 | cons p l ih =>
  obtain ⟨k, x⟩ := p;rw [List.filter_cons];by_cases hk : c.contains k = true
  ·rw [if_pos (by exact hk), zaa, zaa, ih];by_cases hy : y = k
   ·subst hy; rw [if_pos rfl, if_pos rfl, if_pos hk]
   ·rw [if_neg hy, if_neg hy]
  ·rw [if_neg (by exact hk), ih, zaa];by_cases hy : y = k
   ·subst hy; rw [if_neg hk, if_neg hk]
   ·rw [if_neg hy]
theorem zfh {α : Type} {l : List (Nat × α)} {y : Nat} {x : α} (h : getK l y = some x) : (y, x) ∈ l := by
 induction l with
 | nil => cases h
 | cons p l ih =>
  obtain ⟨k, d⟩ := p;rw [zaa] at h;by_cases hyk : y = k
  ·rw [if_pos hyk] at h; cases h; subst hyk; simp
  ·rw [if_neg hyk] at h; exact List.mem_cons_of_mem _ (ih h)
theorem zdq {α : Type} {l : List (Nat × α)} {y : Nat} (h : y ∈ l.map (·.1)) : ∃ x, getK l y = some x := by
 induction l with
 | nil => cases h
 | cons p l ih =>
  obtain ⟨k, d⟩ := p;rw [zaa];by_cases hyk : y = k
  ·exact ⟨d, by rw [if_pos hyk]⟩
  ·rw [if_neg hyk];simp only [List.map_cons, List.mem_cons] at h;exact ih (h.resolve_left hyk)
theorem zjI (O : List (Nat × Ob)) (y : Nat) : getK (O.map fun p => (p.1, some p.2) : Wr) y = (getK O y).map some := by
 induction O with
 | nil => rfl
 | cons p l ih =>
  obtain ⟨k, d⟩ := p;rw [List.map_cons, zaa, zaa, ih];split <;> rfl
theorem zdu {ρ : Nat -> Nat} {N M : Nat} (hρ : ∀ y, y < N -> ρ y = y) (hNM : N <= M) : ∀ {d : D}, d.under N = true -> Good ρ M d
 | .u x, _ => ⟨by simp [D.ren], by simp [D.under]⟩
 | .any, _ => ⟨by simp [D.ren], by simp [D.under]⟩
 | .ptr i off, h => by simp [D.under] at h; exact ⟨by simp [D.ren, hρ i h], by simp [D.under]; omega⟩
 | .vec i len, h => by simp [D.under] at h; exact ⟨by simp [D.ren, hρ i h], by simp [D.under]; omega⟩
 | .mp i, h => by simp [D.under] at h; exact ⟨by simp [D.ren, hρ i h], by simp [D.under]; omega⟩
 | .elt i sz idx off, h => by simp [D.under] at h; exact ⟨by simp [D.ren, hρ i h], by simp [D.under]; omega⟩
 | .fnc f caps, h => by
  have hc : ∀ c ∈ caps, Good ρ M c := fun c hc => zdu hρ hNM (by rw [D.under] at h; simp only [List.all_map, List.all_eq_true] at h; exact h c hc);refine ⟨by rw [D.ren]; congr 1; exact (List.map_congr_left fun c hc' => (hc c hc').1).trans (List.map_id _), ?_⟩;rw [D.under];simp only [List.all_map, List.all_eq_true];exact fun c hc' => (hc c hc').2
 | .bnd f caps, h => by
  have hc : ∀ c ∈ caps, Good ρ M c := fun c hc => zdu hρ hNM (by rw [D.under] at h; simp only [List.all_map, List.all_eq_true] at h; exact h c hc);refine ⟨by rw [D.ren]; congr 1; exact (List.map_congr_left fun c hc' => (hc c hc').1).trans (List.map_id _), ?_⟩;rw [D.under];simp only [List.all_map, List.all_eq_true];exact fun c hc' => (hc c hc').2
 | .agg caps, h => by
  have hc : ∀ c ∈ caps, Good ρ M c := fun c hc => zdu hρ hNM (by rw [D.under] at h; simp only [List.all_map, List.all_eq_true] at h; exact h c hc);refine ⟨by rw [D.ren]; congr 1; exact (List.map_congr_left fun c hc' => (hc c hc').1).trans (List.map_id _), ?_⟩;rw [D.under];simp only [List.all_map, List.all_eq_true];exact fun c hc' => (hc c hc').2
 | .tup caps, h => by
  have hc : ∀ c ∈ caps, Good ρ M c := fun c hc => zdu hρ hNM (by rw [D.under] at h; simp only [List.all_map, List.all_eq_true] at h; exact h c hc);refine ⟨by rw [D.ren]; congr 1; exact (List.map_congr_left fun c hc' => (hc c hc').1).trans (List.map_id _), ?_⟩;rw [D.under];simp only [List.all_map, List.all_eq_true];exact fun c hc' => (hc c hc').2
theorem zf5 {ρ : Nat -> Nat} {N M : Nat} (hρ : ∀ y, y < N -> ρ y = y) (hNM : N <= M) {ob : Ob} (h : ob.under N = true) : ob.all (Good ρ M) := by
 cases ob with
 | it => trivial
 | nw => trivial
 | sit => trivial
 | box cs => exact fun c hc => zdu hρ hNM ((List.all_eq_true.1 h) c hc)
 | vec e sz rows => exact fun r hr c hc => zdu hρ hNM ((List.all_eq_true.1 ((List.all_eq_true.1 h) r hr)) c hc)
 | map kk ag es => exact fun p hp c hc => zdu hρ hNM ((List.all_eq_true.1 ((List.all_eq_true.1 h) p hp)) c hc)
theorem zqo {ops : List Oper} (hord : znQ ops = true) : ∀ {i j : Nat} {y : Oper}, ops[j]? = some y -> zfW ops ops.length i j = true -> i < j := by
 have key : ∀ (n i j : Nat) (y : Oper), ops[j]? = some y -> zfW ops n i j = true -> i < j := by
  intro n
  induction n with
  | zero => intro i j y hj h; simp [zfW] at h
  | succ n ih =>
   intro i j y hj h;simp only [zfW, hj] at h;rw [List.any_eq_true] at h;obtain ⟨p, hp, h⟩ := h;have hlt := (zhg hord hj).1 p hp;simp only [Bool.or_eq_true, beq_iff_eq] at h;rcases h with rfl | h
   ·exact hlt
   ·have hpl : p < ops.length := by have := (List.getElem?_eq_some_iff.1 hj).1; omega
    have := ih i p _ (List.getElem?_eq_getElem hpl) h;omega
 exact fun {i j y} hj h => key _ i j y hj h
theorem EffP.guard {P Γ s k} {dst op type pos after guard} (h : EffP P Γ { dst, op, type, pos, after, guard := none } s k) : EffP P Γ { dst, op, type, pos, after, guard } s k := h
def VA (P : Program) (Γ : Ctx) (ops : List Oper) (s : St) (R : Exit -> St -> Prop) : Prop :=
 ∀ K a w, In Γ K w -> Sim K Γ.own s a w -> wpAny P .any ops.toArray (VPost Γ R) ops.toArray.size (Array.replicate ops.toArray.size false) a { w with drawn := w.drawn + 1 }
set_option maxHeartbeats 4000000 in
theorem zsf {P Γ} {R0 : Exit -> St -> Prop} {ops : List Oper} {T : Nat -> D} {W : Nat -> Wr} {cr : Nat -> Option Nat} {R : Nat -> List Nat} {kd : Nat -> Nat} {s : St} {M : Nat}
  (hord : znQ ops = true) (hn0 : Γ.n0 <= s.next) (hM : s.next <= M)
  (hcr : ∀ i x, cr i = some x -> s.next <= x /\ x < M) (hcr1 : ∀ i j x, cr i = some x -> cr j = some x -> i = j)
  (hpair : ∀ i j, i < j -> j < ops.length -> zfW ops ops.length i j = false -> (∀ y ∈ zeG (W i), y ∉ R j /\ y ∉ zeG (W j)) /\ ∀ y ∈ zeG (W j), y ∉ R i)
  (hkd : ∀ i, kd i ≠ 0 -> W i = [] /\ cr i = none) (hstop : ∀ p i, kd p = 1 -> i < ops.length -> W i ≠ [] -> zfW ops ops.length i p = true \/ zfW ops ops.length p i = true)
  (hval : ∀ i o, ops[i]? = some o -> zat o.dst s /\ if kd i = 2 then ∃ p, kd p = 1 /\ p < ops.length /\ zfW ops ops.length p i = true else if kd i = 1 then o.guard = none /\ ztO P Γ (stW ops T W s M fun j => decide (j < i)) o.op else
    zuL P s.next ops.toArray (stW ops T W s M fun j => decide (j < i)) o (T i) (W i) (cr i) (R i))
  (hfin : (∀ i, i < ops.length -> kd i ≠ 1) -> ∃ s', (stW ops T W s M fun _ => true).Eqo s' /\ R0 .normal s') : VA P Γ ops s R0 := by
 intro K a w hin hs;have hin0 : In Γ K { w with drawn := w.drawn + 1 } := ⟨hin.le, hin.none0, hin.memNew, hin.fresh, hin.os, hin.tape, hin.output, hin.size, hin.block⟩;have hs0 : Sim K Γ.own s a { w with drawn := w.drawn + 1 } := ⟨⟨hs.sat.mem, fun i ob hi => by
   obtain ⟨h, h1, h2, h3⟩ := hs.sat.ob i ob hi;exact ⟨h, h1, h2, h3.keep (.refl _) fun b e => rfl⟩, hs.sat.apart⟩, hs.defers, hs.size, hs.env, hs.hdr⟩
 generalize ({ w with drawn := w.drawn + 1 } : World) = w0 at hin0 hs0;have key : ∀ (fuel : Nat) (listed : Array Bool) (K : Kr) (a : Act) (w : World), listed.size = ops.length -> (listed.toList.filter (! ·)).length <= fuel ->
   (∀ j y, ops[j]? = some y -> listed.getD j false = true -> ∀ p ∈ zev y, listed.getD p false = true) -> In Γ K w -> Sim K Γ.own (stW ops T W s M fun j => listed.getD j false) a w ->
   (∀ j x, j < ops.length -> listed.getD j false = false -> cr j = some x -> K.hdr x = none) -> (∀ p, kd p = 1 -> p < ops.length -> listed.getD p false = false) ->
   wpAny P .any ops.toArray (VPost Γ R0) fuel listed a w := by
  have allDone : ∀ (listed : Array Bool) (K : Kr) (a : Act) (w : World), (∀ p, kd p = 1 -> p < ops.length -> listed.getD p false = false) -> (∀ j, j < ops.length -> listed.getD j false = true) -> In Γ K w -> Sim K Γ.own (stW ops T W s M fun j => listed.getD j false) a w ->
    ∃ K' s', In Γ K' w /\ Sim K' Γ.own s' a w /\ R0 .normal s' := fun listed K a w hsp hall hin hs => by
   obtain ⟨s', he, hfin⟩ := hfin fun i hi hk => by have h1 := hsp i hk hi; rw [hall i hi] at h1; cases h1
   refine ⟨K, _, hin, Sim.eqo (hs.eqo ?_) he, hfin⟩;refine ⟨rfl, fun x => ?_, rfl, fun x => ?_⟩
   ·simp only [stW, zaZ];rw [zdL W _ (fun _ => true) x ops.length fun j hj _ => hall j hj]
   ·exact zea T _ _ x ops 0 s.env s.env rfl fun j o hj _ => by
     have hl := (List.getElem?_eq_some_iff.1 hj).1;simp only [Nat.zero_add];exact hall j hl
  have least : ∀ (listed : Array Bool), listed.size = ops.length -> ∀ i, i < ops.length -> listed.getD i false = false -> ∃ i0, i0 ∈ Region.ready .any ops.toArray listed := fun listed hsz i hi hu => by
   induction i using Nat.strongRecOn with
   | _ i ih =>
    have ho : ops[i]? = some ops[i] := List.getElem?_eq_getElem hi;by_cases hp : ∀ p ∈ zev ops[i], listed.getD p false = true
    ·refine ⟨i, mem_ready.2 ⟨?_, ops[i], by simp, fun e he hb => hp e.on ?_⟩⟩
     ·have hi' : i < listed.size := by omega
      simp [hi'] at hu ⊢;exact hu
     ·simp only [zev, List.mem_map, List.mem_filter];exact ⟨e, ⟨by simpa using he, hb⟩, rfl⟩
    ·simp only [Classical.not_forall] at hp;obtain ⟨p, hpm, hpu⟩ := hp;have hlt := (zhg hord ho).1 p hpm;exact ih p hlt (by omega) (by simpa using hpu)
  intro fuel
  induction fuel with
  | zero =>
   intro listed K a w hsz hcnt hcl hin hs _ hsp;have hall : ∀ j, j < ops.length -> listed.getD j false = true := fun j hj => by
    have hj' : j < listed.size := by omega
    have h0 : (listed.toList.filter (! ·)) = [] := List.eq_nil_of_length_eq_zero (by omega);have := (List.filter_eq_nil_iff.1 h0) listed[j] (by simp);simp only [Bool.not_eq_true', Bool.not_eq_false] at this;simp [hj', this]
   refine ⟨?_, .inl (allDone listed K a w hsp hall hin hs)⟩;refine List.eq_nil_iff_forall_not_mem.2 fun i hi => ?_;obtain ⟨h1, o, ho, _⟩ := mem_ready.1 hi;have hl : i < ops.length := by
    have := (Array.getElem?_eq_some_iff.1 ho).1;simpa using this
   have := hall i hl;have hi' : i < listed.size := by omega
   simp [hi'] at h1 this;rw [h1] at this;cases this
  | succ fuel ih =>
   intro listed K a w hsz hcnt hcl hin hs hfr hsp;refine ⟨fun hnil => .inl (allDone listed K a w hsp (fun j hj => ?_) hin hs), fun i hi => ?_⟩
   ·cases hu : listed.getD j false with
    | true => rfl
    | false =>
     obtain ⟨i0, h0⟩ := least listed hsz j hj hu;rw [hnil] at h0;cases h0
   ·obtain ⟨hun, o, ho, hall⟩ := mem_ready.1 hi;have ho' : ops[i]? = some o := by simpa using ho
    have hil := (List.getElem?_eq_some_iff.1 ho').1;have hil' : i < listed.size := by omega
    have hunf : listed.getD i false = false := by simp [hil'] at hun ⊢; exact hun
    have hpred : ∀ p ∈ zev o, listed.getD p false = true := fun p hp => by
     simp only [zev, List.mem_map, List.mem_filter] at hp;obtain ⟨e, ⟨he, hb⟩, rfl⟩ := hp;exact hall e (by simpa using he) hb
    obtain ⟨hpo, hv⟩ := hval i o ho';have bef1 : ∀ j, zfW ops ops.length j i = true -> listed.getD j false = true := fun j hb => zgO hcl _ j i o ho' hpred hb;have bef2 : ∀ j x, ops[j]? = some x -> zfW ops ops.length i j = true -> listed.getD j false = false := fun j x hj hb => by
     cases hu : listed.getD j false with
     | false => rfl
     | true =>
      have := zgO hcl _ i j x hj (hcl j x hj hu) hb;rw [hunf] at this;cases this
    have before : ∀ j x, ops[j]? = some x -> j < i -> zhO ops.toArray x o = true \/ zhO ops.toArray o x = true -> listed.getD j false = true := fun j x hj hlt hmm =>
     bef1 j ((zhg hord ho').2.2 j x hlt hj hmm)
    have behind : ∀ j x, ops[j]? = some x -> i < j -> zhO ops.toArray x o = true \/ zhO ops.toArray o x = true -> listed.getD j false = false := fun j x hj hlt hmm =>
     bef2 j x hj ((zhg hord hj).2.2 i o hlt ho' hmm.symm)
    have agree : ∀ t, t ∈ o.looksAt ops.toArray -> getK (zgb T (fun j => listed.getD j false) ops 0 s.env) t = getK (zgb T (fun j => decide (j < i)) ops 0 s.env) t := fun t ht => by
     refine zea T _ _ t ops 0 s.env s.env rfl fun j x hj hx => ?_;simp only [Nat.zero_add];have hmm : zhO ops.toArray x o = true := by simp [zhO, hx, ht]
     rcases Nat.lt_trichotomy j i with h | h | h
     ·rw [before j x hj h (.inl hmm)]; simp [h]
     ·subst h; rw [hunf]; simp
     ·rw [behind j x hj h (.inl hmm)]; simp; omega
    have hopd : ∀ x ∈ o.op.operands, opd (stW ops T W s M fun j => decide (j < i)) x = opd (stW ops T W s M fun j => listed.getD j false) x := fun x hx => by
     cases x with
     | tmp t =>
      simp only [opd, St.at, stW];rw [agree t (List.mem_append_left _ (List.mem_filterMap.2 ⟨.tmp t, by simpa using hx, rfl⟩))]
     | _ => rfl
    have hloc : ∀ y ∈ R i, getK (stW ops T W s M fun j => decide (j < i)).obs y = getK (stW ops T W s M fun j => listed.getD j false).obs y := fun y hy => by
     simp only [stW, zaZ];rw [zdL W (fun j => decide (j < i)) (fun j => listed.getD j false) y ops.length fun j hj hk => ?_];rcases Nat.lt_trichotomy j i with h | h | h
     ·have hb : zfW ops ops.length j i = true := by
       cases hb : zfW ops ops.length j i with
       | true => rfl
       | false => exact absurd hy (((hpair j i h hil hb).1 y hk).1)
      rw [bef1 j hb];simp [h]
     ·subst h; rw [hunf]; simp
     ·have hb : zfW ops ops.length i j = true := by
       cases hb : zfW ops ops.length i j with
       | true => rfl
       | false => exact absurd hy ((hpair i j h hj hb).2 y hk)
      rw [bef2 j _ (List.getElem?_eq_getElem hj) hb];simp; omega
    have hlast : ∀ y ∈ zeG (W i), ∀ j, j < ops.length -> i < j -> y ∈ zeG (W j) -> listed.getD j false = false := fun y hy j hj hlt hk => by
     have hb : zfW ops ops.length i j = true := by
      cases hb : zfW ops ops.length i j with
      | true => rfl
      | false => exact absurd hk ((hpair i j hlt hj hb).1 y hy).2
     exact bef2 j _ (List.getElem?_eq_getElem hj) hb
    have hS : (fun j => (listed.setIfInBounds i true).getD j false) = fun j => listed.getD j false || j == i := funext fun j => by
     by_cases hji : j = i
     ·subst hji; simp [hil']
     ·simp [Array.getElem?_setIfInBounds_ne (Ne.symm hji), hji]
    have henv : ∀ (x : Nat), o.dst = some x -> getK (zgb T (fun j => listed.getD j false || j == i) ops 0 s.env) x = some (T i) := fun x hdx =>
     zm9 T _ i x ops 0 s.env i o ho' (by omega) hdx fun j o' hj hlt hd' => by
      rw [Nat.zero_add];exact behind j o' hj hlt (.inl (by simp [zhO, hd', hdx]))
    have henv' : ∀ (x : Nat), o.dst ≠ some x -> getK (zgb T (fun j => listed.getD j false || j == i) ops 0 s.env) x = getK (zgb T (fun j => listed.getD j false) ops 0 s.env) x := fun x hdx =>
     zea T _ (fun j => listed.getD j false) x ops 0 s.env s.env rfl fun j o' hj hd' => by
      simp only [Nat.zero_add];have : j ≠ i := fun e => by subst e; rw [ho'] at hj; cases hj; exact hdx hd'
      simp [this]
    by_cases hk2 : kd i = 2
    ·rw [if_pos hk2] at hv;obtain ⟨p, hp1, hp2, hp3⟩ := hv;have := bef1 p hp3;rw [hsp p hp1 hp2] at this;cases this
    rw [if_neg hk2] at hv;by_cases hk1 : kd i = 1
    ·rw [if_pos hk1] at hv;obtain ⟨hg, hst⟩ := hv;unfold wpOp;rw [ho];simp only [Region.wanted, hg, if_true];refine .inl (hst (stW ops T W s M fun j => listed.getD j false) rfl (fun y => ?_) (fun x hx => (hopd x hx).symm) (Nat.le_refl _) o rfl hg hpo K a w hin hs _ _ (fun _ _ _ _ _ _ h => h.elim) fun ch K' a' w' s' h1 h2 h3 => .inl ⟨K', s', h1, h2, h3⟩);simp only [stW, zaZ];rw [zdL W (fun j => listed.getD j false) (fun j => decide (j < i)) y ops.length fun j hj hk => ?_];have hne : W j ≠ [] := fun e => by rw [e] at hk; cases hk
     rcases hstop i j hk1 hj hne with hb | hb
     ·have h1 := bef1 j hb;have hji : j < i := by
       rcases Nat.lt_trichotomy j i with h | h | h
       ·exact h
       ·subst h; rw [hunf] at h1; cases h1
       ·have := zqo hord ho' hb; omega
      rw [h1]; simp [hji]
     ·have h1 := bef2 j _ (List.getElem?_eq_getElem hj) hb;have hji : ¬ j < i := by have := zqo hord (List.getElem?_eq_getElem hj) hb; omega
      rw [h1]; simp [hji]
    rw [if_neg hk1] at hv;have go : ∀ K' a' w', In Γ K' w' -> Sim K' Γ.own (stW ops T W s M fun j => listed.getD j false || j == i) a' w' ->
      (∀ j x, j < ops.length -> (listed.getD j false || j == i) = false -> cr j = some x -> K'.hdr x = none) ->
      wpAny P .any ops.toArray (VPost Γ R0) fuel (listed.setIfInBounds i true) a' w' := fun K' a' w' h1 h2 h3 => by
     have hS' : ∀ j, (listed.setIfInBounds i true).getD j false = (listed.getD j false || j == i) := fun j => congrFun hS j;refine ih (listed.setIfInBounds i true) K' a' w' (by simp [hsz]) ?_ (fun j y hj hSj p hp => ?_) h1 (by rw [hS]; exact h2) (fun j x hj hu => h3 j x hj (by rw [<- hS']; exact hu)) (fun p hp1 hp2 => by
      rw [hS', hsp p hp1 hp2];have : p ≠ i := fun e => hk1 (e ▸ hp1);simp [this])
     ·have cnt : ∀ (l : List Bool) (n : Nat), l[n]? = some false -> ((l.set n true).filter (! ·)).length + 1 = (l.filter (! ·)).length := by
       intro l
       induction l with
       | nil => intro n h; simp at h
       | cons b l ih =>
               intro n h;cases n with
               | zero => simp at h; subst h; simp
               | succ n =>
                have := ih n (by simpa using h);cases b <;> simp at this ⊢ <;> omega
      have := cnt listed.toList i (by
       rw [Array.getElem?_toList, Array.getElem?_eq_getElem hil'];simp [hil'] at hunf;rw [hunf])
      rw [Array.toList_setIfInBounds];omega
     ·rw [hS'] at hSj ⊢;simp only [Bool.or_eq_true, beq_iff_eq] at hSj ⊢;rcases hSj with hSj | rfl
      ·exact .inl (hcl j y hj hSj p hp)
      ·rw [ho'] at hj;cases hj;exact .inl (hpred p hp)
    have next : W i = [] -> ∀ K' v w', In Γ K' w' -> K.le K' -> K'.hdr = K.hdr -> Sat K' Γ.own (stW ops T W s M fun j => listed.getD j false).obs w' -> Rep K' (T i) v ->
      wpAny P .any ops.toArray (VPost Γ R0) fuel (listed.setIfInBounds i true) (a.put o.dst v) w' := fun hW K' v w' h1 h2 h3 h4 h5 => by
     refine go K' _ w' h1 ?_ fun j x hj hu hc => by
      rw [h3];simp only [Bool.or_eq_false_iff] at hu;exact hfr j x hj hu.1 hc
     have hdef : (a.put o.dst v).defers = Γ.own.dfr := by cases o.dst <;> exact hs.defers
     have hsize : (a.put o.dst v).tmps.size = s.n := by
      have hsz2 : a.tmps.size = s.n := hs.size;cases o.dst <;> simp [Act.put, hsz2]
     refine ⟨h4.eqo fun y => ?_, hdef, hsize, fun x d hx => ?_, fun j hj => by rw [h3]; exact hs.hdr j hj⟩
     ·simp only [stW, zaZ];rw [zdL W (fun j => listed.getD j false) (fun j => listed.getD j false || j == i) y ops.length fun j hj hk => ?_];by_cases hji : j = i
      ·subst hji; rw [hW] at hk; cases hk
      ·simp [hji]
     ·simp only [stW] at hx;by_cases hdx : o.dst = some x
      ·rw [henv x hdx] at hx;cases hx;have hlt : x < s.n := by rw [hdx] at hpo; exact hpo
       refine ⟨hlt, ?_⟩;have hsz' : a.tmps.size = s.n := hs.size;rw [hdx];simpa [Act.put, hsz', hlt] using h5
      ·rw [henv' x hdx] at hx;obtain ⟨g1, g2⟩ := hs.env x d hx;refine ⟨g1, ?_⟩
       have e : (a.put o.dst v).tmps.getD x undef = a.tmps.getD x undef := by
               cases hd : o.dst with
               | none => rfl
               | some y =>
                have hne : y ≠ x := fun e => hdx (by rw [hd, e]);simp [Act.put, Array.getElem?_setIfInBounds_ne hne]
       rw [e];exact g2.mono h2
    unfold wpOp;rw [ho];simp only;have two : (Region.wanted o (yielded ops.toArray a.tmps) = true /\ ztR P s.next (stW ops T W s M fun j => decide (j < i)) o.op o.dst (T i) (W i) (cr i) (R i)) \/ (Region.wanted o (yielded ops.toArray a.tmps) = false /\ T i = .un /\ W i = []) := by
     unfold zuL at hv;split at hv
     ·rename_i hg;exact .inl ⟨by simp [Region.wanted, hg], hv⟩
     ·rename_i j want hg;obtain ⟨t, ht, hv⟩ := hv;have lift : ∀ dd, getK (stW ops T W s M fun j => decide (j < i)).env t = some dd -> getK (stW ops T W s M fun j => listed.getD j false).env t = some dd := fun dd hb => by
       simp only [stW] at hb ⊢
       rw [agree t (by
               refine List.mem_append_right _ ?_;unfold zaS at ht;simp only [hg];rw [ht];simp)]
       exact hb
      rcases hv with ⟨b, hb, hv⟩ | ⟨hb, hv⟩
      ·have hb' := lift _ hb;obtain ⟨hlt, hr⟩ := hs.getK hb';have hbv := zdz hr
       have hyd : yielded ops.toArray a.tmps j = some b := by
               unfold yielded;unfold zaS at ht;rw [ht];simp only [Option.bind_some];have : a.tmps[t]? = some (.bool b) := by
                rw [Array.getElem?_eq_getElem hlt];simp [hlt] at hbv;rw [hbv]
               rw [this]
       by_cases hbw : b = want
       ·rw [if_pos hbw] at hv;exact .inl ⟨by simp [Region.wanted, hg, hyd, hbw], hv⟩
       ·rw [if_neg hbw] at hv;exact .inr ⟨by simp [Region.wanted, hg, hyd, hbw], hv.1, hv.2.1⟩
      ·have hb' := lift _ hb;obtain ⟨hlt, hr⟩ := hs.getK hb';have hbv := zdY hr
       have hyd : yielded ops.toArray a.tmps j = none := by
               unfold yielded;unfold zaS at ht;rw [ht];simp only [Option.bind_some];have : a.tmps[t]? = some undef := by
                rw [Array.getElem?_eq_getElem hlt];simp [hlt] at hbv;rw [hbv]
               rw [this]
               try rfl
       exact .inr ⟨by simp [Region.wanted, hg, hyd], hv.1, hv.2.1⟩
    rcases two with ⟨hw, hv⟩ | ⟨hw, hv⟩
    ·rw [if_pos hw]
     let un : Nat -> Prop := fun y => ∃ j, j < ops.length /\ (listed.getD j false || j == i) = false /\ cr j = some y
     let ρ : Nat -> Nat := fun y => open Classical in if cr i = some y then M else if un y then M + 1 + y else y
     have hknown : ∀ y h, K.hdr y = some h -> ρ y = y /\ y < M := fun y h hy => by
      have h1 : cr i ≠ some y := fun e => by rw [hfr i y hil hunf e] at hy; cases hy
      have h2 : ¬ un y := fun ⟨j, hj, hu, hc⟩ => by
       simp only [Bool.or_eq_false_iff] at hu;rw [hfr j y hj hu.1 hc] at hy;cases hy
      refine ⟨by simp only [ρ]; rw [if_neg h1, if_neg h2], ?_⟩;rcases Nat.lt_or_ge y M with h | h
      ·exact h
      ·rw [hs.hdr y h] at hy; cases hy
     have hobs : ∀ y ob, getK (stW ops T W s M fun j => listed.getD j false).obs y = some ob -> (ρ y = y /\ y < M) /\ ob.all (Good ρ M) := fun y ob hy => by
      have hok := hs.sat.ob y ob hy;obtain ⟨h, h1, _⟩ := hok;exact ⟨hknown y h h1, (hs.sat.ob y ob hy).good hknown⟩
     have hρs0 : ∀ y, y < s.next -> ρ y = y := fun y hy => by
      have c1 : cr i ≠ some y := fun e => by have := (hcr i y e).1; omega
      have c2 : ¬ un y := fun ⟨j, _, _, hc⟩ => by have := (hcr j y hc).1; omega
      simp only [ρ];rw [if_neg c1, if_neg c2]
     have mk : ∀ e' : ERes, (∀ p ∈ e'.U, ∀ ob, p.2 = some ob -> ob.all (Good ρ M) /\ ∃ o, getK (stW ops T W s M fun j => listed.getD j false).obs p.1 = some o) -> (∀ ob, e'.nw = some ob -> ob.all (Good ρ M)) ->
       (match e'.nw with | none => o.dst = none /\ W i = e'.U /\ cr i = none | some ob => ∃ x, cr i = some x /\ W i = (x, some ob) :: e'.U /\ T i = mkD e'.how x) ->
       ∀ K' a' w', In Γ K' w' -> Sim K' Γ.own ((stW ops T W s M fun j => listed.getD j false).effS e' o.dst) a' w' -> wpAny P .any ops.toArray (VPost Γ R0) fuel (listed.setIfInBounds i true) a' w' := by
      intro e' hgU hgN hcase K' a' w' h1 h2;have hle : St.Le Γ.n0 ρ ((stW ops T W s M fun j => listed.getD j false).effS e' o.dst) (stW ops T W s M fun j => listed.getD j false || j == i) := by
       have hWi : ∀ y, y ∈ zeG (W i) → getK (zfM W (fun j => listed.getD j false || j == i) ops.length) y = getK (W i) y := fun y hy =>
               zjb W _ i y hy ops.length hil fun j hj hlt hk => hlast y hy j hj hlt hk
       have hWn : ∀ y, y ∉ zeG (W i) → getK (zfM W (fun j => listed.getD j false || j == i) ops.length) y = getK (zfM W (fun j => listed.getD j false) ops.length) y := fun y hy =>
               zdL W _ _ y ops.length fun j hj hk => by
                by_cases hji : j = i
                ·subst hji; exact absurd hk hy
                ·simp [hji]
       have hinj : ∀ y1 y2, y1 < M → y2 < M → ρ y1 = ρ y2 → y1 = y2 := fun y1 y2 g1 g2 hr => by
               simp only [ρ] at hr;by_cases c1 : cr i = some y1 <;> by_cases c2 : cr i = some y2
               ·rw [c1] at c2; cases c2; rfl
               ·rw [if_pos c1, if_neg c2] at hr;split at hr <;> omega
               ·rw [if_neg c1, if_pos c2] at hr;split at hr <;> omega
               ·rw [if_neg c1, if_neg c2] at hr;split at hr <;> split at hr <;> omega
       have hobs2 : ∀ y ob', getK (stW ops T W s M fun j => listed.getD j false || j == i).obs y = some ob' → y < M ∧
                ∃ ob, getK ((stW ops T W s M fun j => listed.getD j false).effS e' o.dst).obs (ρ y) = some ob /\ Ob.le ρ ob ob' /\ ob'.under M = true := fun y ob' hy => by
               simp only [stW, zaZ] at hy;cases hn : e'.nw with
               | none =>
                rw [hn] at hcase;obtain ⟨hd0, hWU, hcn⟩ := hcase;have hob : ∀ z, getK ((stW ops T W s M fun j => listed.getD j false).effS e' o.dst).obs z = match getK (W i) z with | some x => x | none => getK (stW ops T W s M fun j => listed.getD j false).obs z := fun z => by
                 simp only [St.effS, hn, zaZ, hWU]
                 try rfl
                by_cases hk : y ∈ zeG (W i)
                ·rw [hWi y hk] at hy;obtain ⟨x, hx⟩ := zfy (W i) y hk;rw [hx] at hy;simp only at hy;subst hy;have hmem : (y, some ob') ∈ e'.U := by
                  rw [<- hWU];have : ∀ (l : Wr), getK l y = some (some ob') -> (y, some ob') ∈ l := by
                   intro l
                   induction l with
                   | nil => intro h; cases h
                   | cons p l ih =>
                    obtain ⟨k', d'⟩ := p;intro h;rw [zaa] at h;by_cases hyk : y = k'
                    ·rw [if_pos hyk] at h; cases h; subst hyk; simp
                    ·rw [if_neg hyk] at h; exact List.mem_cons_of_mem _ (ih h)
                  exact this _ hx
                 obtain ⟨hga, o0, ho0⟩ := hgU _ hmem ob' rfl;obtain ⟨⟨hr, hlt⟩, _⟩ := hobs y o0 ho0;refine ⟨hlt, ob', ?_, (Ob.zer hga).1, (Ob.zer hga).2⟩;rw [hr, hob, hx]
                ·rw [hWn y hk] at hy;obtain ⟨⟨hr, hlt⟩, hga⟩ := hobs y ob' (by simp only [stW, zaZ]; exact hy);refine ⟨hlt, ob', ?_, (Ob.zer hga).1, (Ob.zer hga).2⟩;rw [hr, hob, zcO (W i) y hk];simp only [stW, zaZ];exact hy
               | some nb =>
                rw [hn] at hcase;obtain ⟨x0, hcx, hWU, hTi⟩ := hcase;have hx0 := hcr i x0 hcx;have hob : ∀ z, z ≠ M -> getK ((stW ops T W s M fun j => listed.getD j false).effS e' o.dst).obs z = match getK e'.U z with | some x => x | none => getK (stW ops T W s M fun j => listed.getD j false).obs z := fun z hz => by
                 have : ∀ (q : St) (d : D), (q.put o.dst d).obs = q.obs := fun q d => by cases o.dst <;> rfl
                 simp only [St.effS, hn, this, zaa];rw [if_neg (by simpa [stW] using hz), zaZ]
                 try rfl
                have hobM : getK ((stW ops T W s M fun j => listed.getD j false).effS e' o.dst).obs M = some nb := by
                 have : ∀ (q : St) (d : D), (q.put o.dst d).obs = q.obs := fun q d => by cases o.dst <;> rfl
                 simp only [St.effS, hn, this, zaa];rw [if_pos (by simp [stW])]
                by_cases hyx : y = x0
                ·subst hyx;have hk : y ∈ zeG (W i) := by rw [hWU]; simp [zeG]
                 rw [hWi y hk, hWU, zaa, if_pos rfl] at hy;simp only at hy;cases hy;have hga := hgN ob' hn;refine ⟨hx0.2, ob', ?_, (Ob.zer hga).1, (Ob.zer hga).2⟩;simp only [ρ];rw [if_pos hcx];exact hobM
                ·by_cases hk : y ∈ zeG (W i)
                 ·rw [hWi y hk, hWU, zaa, if_neg hyx] at hy;have hk' : y ∈ e'.U.map (·.1) := by
                   rw [hWU] at hk;simp only [zeG, List.map_cons, List.mem_cons] at hk;exact hk.resolve_left hyx
                  obtain ⟨x, hx⟩ := zfy e'.U y hk';rw [hx] at hy;simp only at hy;subst hy;have hmem : (y, some ob') ∈ e'.U := by
                   have : ∀ (l : Wr), getK l y = some (some ob') -> (y, some ob') ∈ l := by
                    intro l
                    induction l with
                    | nil => intro h; cases h
                    | cons p l ih =>
                     obtain ⟨k', d'⟩ := p;intro h;rw [zaa] at h;by_cases hyk : y = k'
                     ·rw [if_pos hyk] at h; cases h; subst hyk; simp
                     ·rw [if_neg hyk] at h; exact List.mem_cons_of_mem _ (ih h)
                   exact this _ hx
                  obtain ⟨hga, o0, ho0⟩ := hgU _ hmem ob' rfl;obtain ⟨⟨hr, hlt⟩, _⟩ := hobs y o0 ho0;refine ⟨hlt, ob', ?_, (Ob.zer hga).1, (Ob.zer hga).2⟩;rw [hr, hob y (by omega), hx]
                 ·rw [hWn y hk] at hy;obtain ⟨⟨hr, hlt⟩, hga⟩ := hobs y ob' (by simp only [stW, zaZ]; exact hy);refine ⟨hlt, ob', ?_, (Ob.zer hga).1, (Ob.zer hga).2⟩;have hk' : y ∉ e'.U.map (·.1) := by
                   rw [hWU] at hk;simp only [zeG, List.map_cons, List.mem_cons, not_or] at hk;exact hk.2
                  rw [hr, hob y (by omega), zcO e'.U y hk'];simp only [stW, zaZ];exact hy
       have henv2 : ∀ x d', getK (stW ops T W s M fun j => listed.getD j false || j == i).env x = some d' →
                (D.le ρ (((stW ops T W s M fun j => listed.getD j false).effS e' o.dst).at x) d' /\ d'.under M = true) /\ x < s.n := fun x d' hx => by
               simp only [stW] at hx;by_cases hdx : o.dst = some x
               ·rw [henv x hdx] at hx;cases hx;have hlt : x < s.n := by rw [hdx] at hpo; exact hpo
                cases hn : e'.nw with
                | none =>
                 rw [hn] at hcase;rw [hcase.1] at hdx;cases hdx
                | some nb =>
                 rw [hn] at hcase;obtain ⟨x0, hcx, hWU, hTi⟩ := hcase;have hx0 := hcr i x0 hcx;have hρ : ρ x0 = M := by simp only [ρ]; rw [if_pos hcx]
                 refine ⟨⟨.inr (.inl ?_), ?_⟩, hlt⟩
                 ·rw [hTi];simp only [St.effS, hn, hdx, St.put, St.at, zaa, if_true, Option.getD_some];cases e'.how <;> simp [mkD, D.ren, hρ, stW]
                 ·rw [hTi];cases e'.how <;> simp [mkD, D.under, hx0.2]
               ·rw [henv' x hdx] at hx;obtain ⟨g1, g2⟩ := hs.env x d' hx;have hgd := g2.good hknown;have hat : ((stW ops T W s M fun j => listed.getD j false).effS e' o.dst).at x = d' := by
                 have : ∀ (q : St) (d : D), getK (q.put o.dst d).env x = getK q.env x := fun q d => by
                  cases hd : o.dst with
                  | none => rfl
                  | some y =>
                   have hne : ¬ x = y := fun e => hdx (by rw [hd, e]);simp only [St.put, zaa, if_neg hne]
                 simp only [St.at, St.effS];cases hn : e'.nw with
                 | none => simp only [stW, hx]; rfl
                 | some nb => simp only [this, stW, hx]; rfl
                rw [hat];exact ⟨⟨.inr (.inl hgd.1.symm), hgd.2⟩, g1⟩
       refine ⟨?_, fun x d' hx => (henv2 x d' hx).1, fun x d' hx => ?_, hobs2, fun y1 y2 o1 o2 g1 g2 hr => hinj y1 y2 (hobs2 y1 o1 g1).1 (hobs2 y2 o2 g2).1 hr, fun j hj => ?_⟩
       ·have : ∀ (q : St) (d : D), (q.put o.dst d).n = q.n := fun q d => by cases o.dst <;> rfl
        simp only [St.effS];cases e'.nw <;> simp only [this] <;> rfl
       ·have : ∀ (q : St) (d : D), (q.put o.dst d).n = q.n := fun q d => by cases o.dst <;> rfl
        have e2 : ((stW ops T W s M fun j => listed.getD j false).effS e' o.dst).n = s.n := by
         simp only [St.effS];cases e'.nw <;> simp only [this] <;> rfl
        rw [e2];exact (henv2 x d' hx).2
       ·have c1 : cr i ≠ some j := fun e => by have := (hcr i j e).1; omega
        have c2 : ¬ un j := fun ⟨q, _, _, hc⟩ => by have := (hcr q j hc).1; omega
        refine ⟨by simp only [ρ]; rw [if_neg c1, if_neg c2], ?_⟩;show j < M;omega
      obtain ⟨g1, g2⟩ := Sim.weak h1 h2 hle;refine go _ a' w' g1 g2 fun j x hj hu hc => ?_;simp only [Kr.ren];split
      ·have c1 : cr i ≠ some x := fun e => by
               have := hcr1 i j x e hc;subst this;simp at hu
       have c2 : un x := ⟨j, hj, hu, hc⟩;simp only [ρ];rw [if_neg c1, if_pos c2];refine h2.hdr _ ?_;have : ∀ (q : St) (d : D), (q.put o.dst d).next = q.next := fun q d => by cases o.dst <;> rfl
       simp only [St.effS];cases e'.nw <;> simp only [this, stW] <;> omega
      ·rfl
     rcases hv with (⟨hv, hW, hcn, hR⟩ | ⟨e, he, hR, hcase⟩) | ⟨⟨fop, args, f, caps, O, O', L, hco, hcf, hcb, hR, hkW, hWg, hsm, hO, hnd, ⟨hdu, hOu⟩, hret⟩, hcn⟩ | ⟨fop, args, f, caps, O, e, nb, x0, hco, hcf, hcb, hR, ⟨heU, heN, hnu⟩, hcx, hO, hret⟩
     ·replace hv := zjd (s := stW ops T W s M fun j => decide (j < i)) (s' := stW ops T W s M fun j => listed.getD j false) (by rw [<- hR]; exact hloc) hopd hv
      exact .inl (zqL hv hin hs fun K' v w' h1 h2 h3 h4 h5 => next hW K' v w' h1 h2 h3 h4 h5)
     ·
      replace he := zgc (s := stW ops T W s M fun j => decide (j < i)) (s' := stW ops T W s M fun j => listed.getD j false) (by rw [<- hR]; exact hloc) hopd he
      have hgood := zrE (g := Good ρ M) (fun _ => ⟨by simp [D.ren], by simp [D.under]⟩) (fun cs h => h.agg) he (fun x hx => (zaF hs x).good hknown) (fun y ob hy => (hobs y ob hy).2);obtain ⟨e', he', ⟨rfl, hgU, hgN⟩⟩ := Lin.effD.2 _ hgood
      have he2 : effD P (stW ops T W s M fun j => listed.getD j false) o.op fun e => zat o.dst (stW ops T W s M fun j => listed.getD j false) ∧ (e.nw = none → o.dst = none) ∧
               ((stW ops T W s M fun j => listed.getD j false).effS e o.dst) = (stW ops T W s M fun j => listed.getD j false).effS e' o.dst :=
       Lin.effD.1 _ _ (fun e hee => by
               subst hee;refine ⟨hpo, fun hn => ?_, rfl⟩;rw [hn] at hcase;exact hcase.1) he
      refine .inl (zeB (k := fun s' => s' = (stW ops T W s M fun j => listed.getD j false).effS e' o.dst) (zoi he2) K a w hin hs _ _ (fun K' a' w' s' h1 h2 h3 => ?_) fun ch K' a' w' s' h1 h2 h3 => .inl ⟨K', s', h1, h2, h3⟩);have h3' : s' = _ := h3;subst h3';exact mk e' hgU hgN hcase K' a' w' h1 h2
     ·
      let un : Nat -> Prop := fun y => ∃ j, j < ops.length /\ (listed.getD j false || j == i) = false /\ cr j = some y
      let ρ : Nat -> Nat := fun y => open Classical in if un y then M + 1 + y else y
      have hρs : ∀ y, y < s.next -> ρ y = y := fun y hy => by
       have : ¬ un y := fun ⟨j, _, _, hc⟩ => by have := (hcr j y hc).1; omega
       simp only [ρ]; rw [if_neg this]
      have hknown : ∀ y h, K.hdr y = some h -> ρ y = y /\ y < M := fun y h hy => by
       have h2 : ¬ un y := fun ⟨j, hj, hu, hc⟩ => by
               simp only [Bool.or_eq_false_iff] at hu;rw [hfr j y hj hu.1 hc] at hy;cases hy
       refine ⟨by simp only [ρ]; rw [if_neg h2], ?_⟩;rcases Nat.lt_or_ge y M with h | h
       ·exact h
       ·rw [hs.hdr y h] at hy; cases hy
      have hobs : ∀ y ob, getK (stW ops T W s M fun j => listed.getD j false).obs y = some ob -> (ρ y = y /\ y < M) /\ ob.all (Good ρ M) := fun y ob hy => by
       have hok := hs.sat.ob y ob hy;obtain ⟨h, h1, _⟩ := hok;exact ⟨hknown y h h1, (hs.sat.ob y ob hy).good hknown⟩
      have hOact : ∀ p ∈ O, getK (stW ops T W s M fun j => listed.getD j false).obs p.1 = some p.2 := fun p hp => by
       rw [<- hloc p.1 (by rw [hR]; exact List.mem_map.2 ⟨p, hp, rfl⟩)];exact hO p hp
      have hOget : ∀ y ob, getK O y = some ob -> getK (stW ops T W s M fun j => listed.getD j false).obs y = some ob := fun y ob h => hOact _ (zfh h)
      let F := (stW ops T W s M fun j => listed.getD j false).obs.filter fun p => !(O.map (·.1)).contains p.1
      have hFg : ∀ y, getK F y = if (O.map (·.1)).contains y = true then none else getK (stW ops T W s M fun j => listed.getD j false).obs y := fun y => zc7 _ _ y;have hOn : ∀ y, ¬ (O.map (·.1)).contains y = true -> getK O y = none := fun y h => zcO O y (by simpa using h);have heq : ∀ y, getK (stW ops T W s M fun j => listed.getD j false).obs y = getK (F ++ O) y := fun y => by
       rw [zab, hFg];by_cases hy : (O.map (·.1)).contains y = true
       ·rw [if_pos hy];obtain ⟨x, hx⟩ := zdq (l := O) (y := y) (by simpa using hy);rw [hx, hOget y x hx]
       ·rw [if_neg hy, hOn y hy];cases getK (stW ops T W s M fun j => listed.getD j false).obs y <;> rfl
      have hF : ∀ y ob, getK F y = some ob -> getK O y = none := fun y ob h => by
       rw [hFg] at h;by_cases hy : (O.map (·.1)).contains y = true
       ·rw [if_pos hy] at h; cases h
       ·exact hOn y hy
      have hopdS : ∀ x, x ∈ fop :: args -> opd (stW ops T W s M fun j => listed.getD j false) x = opd (stW ops T W s M fun j => decide (j < i)) x := fun x hx => (hopd x (by
       rcases o with ⟨odst, oop, ot, opos, oaf, og⟩
       unfold zbk at hco;split at hco
       ·rename_i c hop;simp only at hop;subst hop;split at hco
        ·cases hco;rename_i f' hcal;simp only [Op.operands, Call.operands, hcal];simp only [List.mem_cons] at hx;simp;rcases hx with rfl | hx
         ·exact .inl rfl
         ·exact .inr (by simpa using hx)
        ·cases hco
       ·cases hco)).symm
      have hcall : CallP P Γ fop args o.dst (stW ops T W s M fun j => listed.getD j false) fun s' => ∃ o1, (∀ y, getK o1 y = getK O' y) /\ s' = (({ (stW ops T W s M fun j => listed.getD j false) with obs := F ++ o1, next := M } : St).put o.dst (T i)) :=
       CallP.xF F O (hret M (Nat.le_refl _)) heq hF (by rw [hopdS fop (by simp)]; exact hcf) hcb (by rw [List.map_congr_left fun x hx => hopdS x (by simp [hx])]) hpo
               (fun d o1 nx' _ ⟨h1, h2, h3⟩ => ⟨o1, h2, by cases h1; rw [h3]⟩) (fun ch o1 nx' _ ⟨h1, _⟩ => by cases h1)
      have heff : EffP P Γ o (stW ops T W s M fun j => listed.getD j false) fun s' => ∃ o1, (∀ y, getK o1 y = getK O' y) /\ s' = (({ (stW ops T W s M fun j => listed.getD j false) with obs := F ++ o1, next := M } : St).put o.dst (T i)) := by
       have e := hcall;rcases o with ⟨odst, oop, ot, opos, oaf, og⟩
       unfold zbk at hco;split at hco
       ·rename_i c hop;simp only at hop;subst hop;split at hco
        ·cases hco;rename_i f' hcal;obtain ⟨cal, cargs, cts⟩ := c;simp only at hcal;subst hcal;exact EffP.guard (e cts ot opos oaf)
        ·cases hco
       ·cases hco
      refine .inl (heff K a w hin hs _ _ (fun K' a' w' s' h1 h2 h3 => ?_) fun ch K' a' w' s' h1 h2 h3 => .inl ⟨K', s', h1, h2, h3⟩);obtain ⟨o1, ho1, rfl⟩ := h3;have hWi : ∀ y, y ∈ zeG (W i) -> getK (zfM W (fun j => listed.getD j false || j == i) ops.length) y = getK (W i) y := fun y hy =>
       zjb W _ i y hy ops.length hil fun j hj hlt hk => hlast y hy j hj hlt hk
      have hWn : ∀ y, y ∉ zeG (W i) -> getK (zfM W (fun j => listed.getD j false || j == i) ops.length) y = getK (zfM W (fun j => listed.getD j false) ops.length) y := fun y hy =>
       zdL W _ _ y ops.length fun j hj hk => by
               by_cases hji : j = i
               ·subst hji; exact absurd hk hy
               ·simp [hji]
      have pobs : ∀ (q : St) (d : D), (q.put o.dst d).obs = q.obs := fun q d => by cases o.dst <;> rfl
      have pn : ∀ (q : St) (d : D), (q.put o.dst d).n = q.n := fun q d => by cases o.dst <;> rfl
      have pnext : ∀ (q : St) (d : D), (q.put o.dst d).next = q.next := fun q d => by cases o.dst <;> rfl
      have hobs2 : ∀ y ob', getK (stW ops T W s M fun j => listed.getD j false || j == i).obs y = some ob' → y < M ∧
               ∃ ob, getK (({ (stW ops T W s M fun j => listed.getD j false) with obs := F ++ o1, next := M } : St).put o.dst (T i)).obs (ρ y) = some ob /\ Ob.le ρ ob ob' /\ ob'.under M = true := fun y ob' hy => by
       rw [pobs];simp only [stW, zaZ] at hy;by_cases hk : y ∈ zeG (W i)
       ·rw [hWi y hk, hWg y hk] at hy;have hyO : y ∈ O.map (·.1) := ((hkW y).1 hk).2;obtain ⟨x0, hx0⟩ := zdq (l := O) (y := y) hyO;obtain ⟨⟨hr, hlt⟩, _⟩ := hobs y x0 (hOget y x0 hx0);cases hq : getK O' y with
        | none =>
         rw [hq] at hy;simp at hy
        | some ob =>
         rw [hq] at hy;have hy : ob = ob' := by simpa using hy
         subst hy;have hga := zf5 (M := M) hρs hM (hOu _ (zfh hq));refine ⟨hlt, ob, ?_, (Ob.zer hga).1, (Ob.zer hga).2⟩;rw [hr, zab, hFg, if_pos (by simpa using hyO), ho1 y, hq]
       ·rw [hWn y hk] at hy;obtain ⟨⟨hr, hlt⟩, hga⟩ := hobs y ob' (by simp only [stW, zaZ]; exact hy);refine ⟨hlt, ob', ?_, (Ob.zer hga).1, (Ob.zer hga).2⟩;by_cases hyO : (O.map (·.1)).contains y = true
        ·have hL : L.contains y = false := by
          cases hL : L.contains y with
          | false => rfl
          | true => exact absurd ((hkW y).2 ⟨hL, by simpa using hyO⟩) hk
         obtain ⟨x0, hx0⟩ := zdq (l := O) (y := y) (by simpa using hyO);have hx1 := hOget y x0 hx0;simp only [stW, zaZ] at hx1;rw [hy] at hx1;rw [hr, zab, hFg, if_pos hyO, ho1 y, hsm y hL, hx0];exact hx1.symm
        ·rw [hr, zab, hFg, if_neg hyO];simp only [stW, zaZ];rw [hy]
      have henv2 : ∀ x d', getK (stW ops T W s M fun j => listed.getD j false || j == i).env x = some d' →
               (D.le ρ ((({ (stW ops T W s M fun j => listed.getD j false) with obs := F ++ o1, next := M } : St).put o.dst (T i)).at x) d' /\ d'.under M = true) /\ x < s.n := fun x d' hx => by
       simp only [stW] at hx;by_cases hdx : o.dst = some x
       ·rw [henv x hdx] at hx;cases hx;have hlt : x < s.n := by rw [hdx] at hpo; exact hpo
        have hg := zdu (M := M) hρs hM hdu;refine ⟨⟨.inr (.inl ?_), hg.2⟩, hlt⟩;simp only [hdx, St.put, St.at, zaa, if_true, Option.getD_some];exact hg.1.symm
       ·rw [henv' x hdx] at hx;obtain ⟨g1, g2⟩ := hs.env x d' hx;have hgd := g2.good hknown;have hat : (({ (stW ops T W s M fun j => listed.getD j false) with obs := F ++ o1, next := M } : St).put o.dst (T i)).at x = d' := by
         have : ∀ (q : St) (d : D), getK (q.put o.dst d).env x = getK q.env x := fun q d => by
          cases hd : o.dst with
          | none => rfl
          | some y =>
           have hne : ¬ x = y := fun e => hdx (by rw [hd, e]);simp only [St.put, zaa, if_neg hne]
         simp only [St.at, this, stW, hx]
         try rfl
        rw [hat];exact ⟨⟨.inr (.inl hgd.1.symm), hgd.2⟩, g1⟩
      have hinj : ∀ y1 y2, y1 < M -> y2 < M -> ρ y1 = ρ y2 -> y1 = y2 := fun y1 y2 g1 g2 hr => by
       simp only [ρ] at hr;split at hr <;> split at hr <;> omega
      have hle : St.Le Γ.n0 ρ (({ (stW ops T W s M fun j => listed.getD j false) with obs := F ++ o1, next := M } : St).put o.dst (T i)) (stW ops T W s M fun j => listed.getD j false || j == i) := by
       refine ⟨by rw [pn]; rfl, fun x d' hx => (henv2 x d' hx).1, fun x d' hx => by rw [pn]; exact (henv2 x d' hx).2, hobs2, fun y1 y2 o1 o2 g1 g2 hr => hinj y1 y2 (hobs2 y1 o1 g1).1 (hobs2 y2 o2 g2).1 hr, fun j hj => ⟨hρs j (by omega), ?_⟩⟩;show j < M;omega
      obtain ⟨g1, g2⟩ := Sim.weak h1 h2 hle;refine go _ a' w' g1 g2 fun j x hj hu hc => ?_;simp only [Kr.ren];split
      ·have c2 : un x := ⟨j, hj, hu, hc⟩;simp only [ρ];rw [if_pos c2];refine h2.hdr _ ?_;rw [pnext];show M <= M + 1 + x;omega
      ·rfl
     ·
      have hOact : ∀ p ∈ O, getK (stW ops T W s M fun j => listed.getD j false).obs p.1 = some p.2 := fun p hp => by
       rw [<- hloc p.1 (by rw [hR]; exact List.mem_map.2 ⟨p, hp, rfl⟩)];exact hO p hp
      have hOget : ∀ y ob, getK O y = some ob -> getK (stW ops T W s M fun j => listed.getD j false).obs y = some ob := fun y ob h => hOact _ (zfh h)
      let F := (stW ops T W s M fun j => listed.getD j false).obs.filter fun p => !(O.map (·.1)).contains p.1
      have hFg : ∀ y, getK F y = if (O.map (·.1)).contains y = true then none else getK (stW ops T W s M fun j => listed.getD j false).obs y := fun y => zc7 _ _ y;have hOn : ∀ y, ¬ (O.map (·.1)).contains y = true -> getK O y = none := fun y h => zcO O y (by simpa using h);have heq : ∀ y, getK (stW ops T W s M fun j => listed.getD j false).obs y = getK (F ++ O) y := fun y => by
       rw [zab, hFg];by_cases hy : (O.map (·.1)).contains y = true
       ·rw [if_pos hy];obtain ⟨x, hx⟩ := zdq (l := O) (y := y) (by simpa using hy);rw [hx, hOget y x hx]
       ·rw [if_neg hy, hOn y hy];cases getK (stW ops T W s M fun j => listed.getD j false).obs y <;> rfl
      have hF : ∀ y ob, getK F y = some ob -> getK O y = none := fun y ob h => by
       rw [hFg] at h;by_cases hy : (O.map (·.1)).contains y = true
       ·rw [if_pos hy] at h; cases h
       ·exact hOn y hy
      have hopdS : ∀ x, x ∈ fop :: args -> opd (stW ops T W s M fun j => listed.getD j false) x = opd (stW ops T W s M fun j => decide (j < i)) x := fun x hx => (hopd x (by
       rcases o with ⟨odst, oop, ot, opos, oaf, og⟩
       unfold zbk at hco;split at hco
       ·rename_i c hop;simp only at hop;subst hop;split at hco
        ·cases hco;rename_i f' hcal;simp only [Op.operands, Call.operands, hcal];simp only [List.mem_cons] at hx;simp;rcases hx with rfl | hx
         ·exact .inl rfl
         ·exact .inr (by simpa using hx)
        ·cases hco
       ·cases hco)).symm
      have hMn : getK (stW ops T W s M fun j => listed.getD j false).obs M = none := by
       cases hq : getK (stW ops T W s M fun j => listed.getD j false).obs M with
       | none => rfl
       | some ob =>
               obtain ⟨h, h1, _⟩ := hs.sat.ob M ob hq;rw [hs.hdr M (Nat.le_refl _)] at h1;cases h1
      have hcall : CallP P Γ fop args o.dst (stW ops T W s M fun j => listed.getD j false) fun s' => ∃ o1, (∀ y, getK o1 y = getK ((M, nb) :: O) y) /\ s' = (({ (stW ops T W s M fun j => listed.getD j false) with obs := F ++ o1, next := M + 1 } : St).put o.dst (mkD e.how M)) :=
       CallP.xF F O (hret M (by first | exact Nat.le_refl _ | exact hM)) heq hF (by rw [hopdS fop (by simp)]; exact hcf) hcb (by rw [List.map_congr_left fun x hx => hopdS x (by simp [hx])]) hpo
               (fun d o1 nx' _ ⟨h1, h2, h3⟩ => ⟨o1, h2, by cases h1; rw [h3]⟩) (fun ch o1 nx' _ ⟨h1, _⟩ => by cases h1)
      have heff : EffP P Γ o (stW ops T W s M fun j => listed.getD j false) fun s' => ∃ o1, (∀ y, getK o1 y = getK ((M, nb) :: O) y) /\ s' = (({ (stW ops T W s M fun j => listed.getD j false) with obs := F ++ o1, next := M + 1 } : St).put o.dst (mkD e.how M)) := by
       have e := hcall;rcases o with ⟨odst, oop, ot, opos, oaf, og⟩
       unfold zbk at hco;split at hco
       ·rename_i c hop;simp only at hop;subst hop;split at hco
        ·cases hco;rename_i f' hcal;obtain ⟨cal, cargs, cts⟩ := c;simp only at hcal;subst hcal;exact EffP.guard (e cts ot opos oaf)
        ·cases hco
       ·cases hco
      refine .inl (heff K a w hin hs _ _ (fun K' a' w' s' h1 h2 h3 => ?_) fun ch K' a' w' s' h1 h2 h3 => .inl ⟨K', s', h1, h2, h3⟩);obtain ⟨o1, ho1, rfl⟩ := h3;refine mk e (by rw [heU]; simp) (fun ob h => by rw [heN] at h; cases h; exact zf5 hρs0 hM hnu) (by rw [heN]; exact ⟨x0, hcx⟩) K' a' w' h1 (h2.eqo ?_);have pobs : ∀ (q : St) (d : D), (q.put o.dst d).obs = q.obs := fun q d => by cases o.dst <;> rfl
      have pn : ∀ (q : St) (d : D), (q.put o.dst d).n = q.n := fun q d => by cases o.dst <;> rfl
      have pnext : ∀ (q : St) (d : D), (q.put o.dst d).next = q.next := fun q d => by cases o.dst <;> rfl
      have penv : ∀ (q q' : St) (d : D) (x : Nat), q.env = q'.env -> getK (q.put o.dst d).env x = getK (q'.put o.dst d).env x := fun q q' d x e => by cases o.dst <;> simp [St.put, e]
      simp only [St.effS, heN];refine ⟨by rw [pn, pn], fun y => ?_, by rw [pnext, pnext]; rfl, fun x => penv _ _ _ x rfl⟩;rw [pobs, pobs];simp only [heU];rw [zab, ho1, zaa, zaa];show _ = if y = M then some nb else getK (zai [] (stW ops T W s M fun j => listed.getD j false).obs) y;have hap : zai [] (stW ops T W s M fun j => listed.getD j false).obs = (stW ops T W s M fun j => listed.getD j false).obs := rfl;rw [hap];by_cases hy : y = M
      ·subst hy;have hFM : getK F y = none := by rw [hFg, hMn]; split <;> rfl
       rw [hFM];simp
      ·rw [if_neg hy, if_neg hy, heq y, zab]
    ·rw [if_neg (by rw [hw]; simp)];exact next hv.2 K undef w hin (.refl _) rfl hs.sat (by rw [hv.1]; exact .u _ _ (.oth _))
 have h0 : (fun j => (Array.replicate ops.toArray.size false).getD j false) = fun _ => false := funext fun j => by
  by_cases hj : j < ops.length <;> simp [hj]
 refine key _ _ K a w0 (by simp) (by simp) (fun j y hj hS => ?_) hin0 ?_ (fun j x _ _ hc => hs.hdr x (hcr j x hc).1) (fun p _ _ => congrFun h0 p)
 ·have : (Array.replicate ops.toArray.size false).getD j false = false := congrFun h0 j;rw [this] at hS;cases hS
 ·rw [h0];have none : ∀ (l : List Oper) (i : Nat) (e : List (Nat × D)), zgb T (fun _ => false) l i e = e := by
   intro l
   induction l with
   | nil => intro i e; rfl
   | cons o l ih => intro i e; simp [zgb, ih]
  have wn : ∀ m, zfM W (fun _ => false) m = [] := by
   intro m
   induction m with
   | zero => rfl
   | succ m ih => simp [zfM, ih]
  refine ⟨hs0.sat.eqo fun y => ?_, hs0.defers, hs0.size, fun x d hx => hs0.env x d ?_, fun y hy => hs0.hdr y (Nat.le_trans hM hy)⟩
  ·simp only [stW, wn]; rfl
  ·simp only [stW, none] at hx; exact hx
abbrev zsP := Ent × Nat
abbrev Fp4 := List (List Nat × List Nat × Nat)
def eE (E : Nat -> zsP) (j : Nat) : Ent := (E j).1
def tF4 (E : Nat -> zsP) (n : Nat) : Fp4 := (List.range n).map fun j => (tR (eE E) j, zeG (tW (eE E) j), (E j).2)
def zvY (P : Program) (N : Nat) (s : St) (o : O1) (e : Ent) : Prop :=
 match o.guard with
 | none => ztR P N s o.op o.dst e.1 e.2.1 e.2.2.1 e.2.2.2
 | some (t, want) => (∃ b, getK s.env t = some (.u (.bool b)) /\ if b = want then ztR P N s o.op o.dst e.1 e.2.1 e.2.2.1 e.2.2.2 else e.1 = .un /\ e.2.1 = [] /\ e.2.2.1 = none) \/
  (getK s.env t = some .un /\ e.1 = .un /\ e.2.1 = [] /\ e.2.2.1 = none)
def Op4 (P : Program) (Γ : Ctx) (N : Nat) (s : St) (o : O1) (e : zsP) : Prop :=
 if e.2 = 2 then e.1.2.1 = [] /\ e.1.2.2.1 = none else if e.2 = 1 then o.guard = none /\ ztO P Γ s o.op /\ e.1.2.1 = [] /\ e.1.2.2.1 = none else e.2 = 0 /\ zvY P N s o e.1
def zln (P : Program) (Γ : Ctx) (N : Nat) : List O1 -> St -> Fp4 -> (St -> Fp4 -> Prop) -> Prop
 | [], s, fp, k => k s fp
 | o :: rest, s, fp, k => ∃ e : zsP, zat o.dst s /\ Op4 P Γ N s o e /\ (∀ x, e.1.2.2.1 = some x -> x = s.next) /\ zln P Γ N rest (s.app o.dst e.1) (fp ++ [(e.1.2.2.2, zeG e.1.2.1, e.2)]) k
def HD4 (P : Program) (Γ : Ctx) (N : Nat) (l : List O1) (s : St) (fp : Fp4) (C : Fp4 -> Prop) (k : St -> Prop) : Prop :=
 ∀ s0 : St, s0.Eqo s -> zln P Γ N l s0 fp fun s1 fp => C fp /\ ((∀ p ∈ fp, p.2.2 ≠ 1) -> ∃ s', s1.Eqo s' /\ k s')
def zg5 (P : Program) (Γ : Ctx) (N : Nat) (o : O1) (rest : List O1) (s : St) (fp : Fp4) (C : Fp4 -> Prop) (k : St -> Prop) : Prop :=
 ∀ s0 : St, s0.Eqo s -> ∃ e : zsP, zat o.dst s0 /\ Op4 P Γ N s0 o e /\ e.2 ≠ 1 /\ (∀ x, e.1.2.2.1 = some x -> x = s0.next) /\ zln P Γ N rest (s0.app o.dst e.1) (fp ++ [(e.1.2.2.2, zeG e.1.2.1, e.2)]) fun s1 fp => C fp /\ ((∀ p ∈ fp, p.2.2 ≠ 1) -> ∃ s', s1.Eqo s' /\ k s')
theorem HD4.of_h {P Γ N o rest s fp C k} (h : zg5 P Γ N o rest s fp C k) : HD4 P Γ N (o :: rest) s fp C k := fun s0 e => by
 obtain ⟨en, h1, h2, _, h3, h4⟩ := h s0 e;exact ⟨en, h1, h2, h3, h4⟩
theorem ztV {P Γ N s fp C k} (hC : C fp) (h : k s) : HD4 P Γ N [] s fp C k := fun s0 e => ⟨hC, fun _ => ⟨s, e, h⟩⟩
theorem zhs {P Γ N s fp C k} (hC : C fp) (h : (fp.any fun p => p.2.2 == 1) = true) : HD4 P Γ N [] s fp C k := fun s0 e => ⟨hC, fun h1 => by
 obtain ⟨p, hp, hk⟩ := List.any_eq_true.1 h;exact absurd (by simpa using hk) (h1 p hp)⟩
theorem zeY {P Γ N s dst op rest fp C k} (_ : zbj op = false) (h : valD P s op fun d => zat dst s /\ HD4 P Γ N rest (s.put dst d) (fp ++ [(zb3 s op, [], 0)]) C k) : zg5 P Γ N ⟨dst, op, none⟩ rest s fp C k := fun s0 e => by
 obtain ⟨d, hv, hp, hr⟩ := Lin.valD.2 _ h;refine ⟨((d, [], none, zb3 s op), 0), by cases dst <;> simp_all [zat, e.1], ?_, by simp, fun x hx => (by cases hx), hr _ (e.put dst d)⟩;unfold Op4;rw [if_neg (by simp), if_neg (by simp)];exact ⟨rfl, .inl (.inl ⟨by rw [zqM e]; exact hv, rfl, rfl, (zhE e op).symm⟩)⟩
theorem zsl {P Γ N s dst op rest fp C k} (_ : zbj op = true) (h : effD P s op fun e => zat dst s /\ (e.nw = none -> dst = none) /\
  HD4 P Γ N rest (s.effS e dst) (fp ++ [(zb3 s op, match e.nw with | none => (e.U.map (·.1), 0) | some _ => (s.next :: e.U.map (·.1), 0))]) C k) : zg5 P Γ N ⟨dst, op, none⟩ rest s fp C k := fun s0 e0 => by
 obtain ⟨e, hv, hp, hd, hr⟩ := Lin.effD.2 _ h;have hp0 : zat dst s0 := by cases dst <;> simp_all [zat, e0.1]
 have hv0 : effD P s0 op (· = e) := by rw [zrD e0]; exact hv
 cases hn : e.nw with
 | none =>
  obtain rfl := hd hn;refine ⟨((.any, e.U, none, zb3 s op), 0), hp0, ?_, by simp, fun x hx => (by cases hx), ?_⟩
  ·unfold Op4;rw [if_neg (by simp), if_neg (by simp)];exact ⟨rfl, .inl (.inr ⟨e, hv0, (zhE e0 op).symm, by rw [hn]; exact ⟨rfl, rfl, rfl⟩⟩)⟩
  rw [hn] at hr;refine hr _ ?_;simp only [St.app, St.effS, hn, St.put];exact ⟨e0.1, fun x => by simp only [zaZ, e0.2.1 x], e0.2.2.1, e0.2.2.2⟩
 | some ob =>
  refine ⟨((mkD e.how s0.next, (s0.next, some ob) :: e.U, some s0.next, zb3 s op), 0), hp0, ?_, by simp, fun x hx => (by cases hx; rfl), ?_⟩
  ·unfold Op4;rw [if_neg (by simp), if_neg (by simp)];exact ⟨rfl, .inl (.inr ⟨e, hv0, (zhE e0 op).symm, by rw [hn]; exact ⟨s0.next, rfl, rfl, rfl⟩⟩)⟩
  rw [hn] at hr;have h1 := hr (s0.app dst (mkD e.how s0.next, (s0.next, some ob) :: e.U, some s0.next, zb3 s op)) (by
   simp only [St.app, St.effS, hn, e0.2.2.1];apply St.Eqo.put;refine ⟨e0.1, fun x => ?_, by simp, e0.2.2.2⟩;simp only [zai, zad, zaa, zaZ, e0.2.1 x])
  simp only [zeG, List.map_cons];rw [e0.2.2.1] at h1 ⊢;exact h1
theorem zgS {P Γ N s dst op rest fp C k} (h0 : zbj op = false) (h : valD P s op fun d => zat dst s /\ HD4 P Γ N rest (s.put dst d) (fp ++ [(zb3 s op, [], 0)]) C k) : HD4 P Γ N (⟨dst, op, none⟩ :: rest) s fp C k := .of_h (zeY h0 h)
theorem zqy {P Γ N s dst op rest fp C k t want b} (hb : getK s.env t = some (.u (.bool b))) (hp : zat dst s)
  (hy : b = want -> zg5 P Γ N ⟨dst, op, none⟩ rest (s.put (some t) (.u (.bool want))) fp C k)
  (hn : b = !want -> HD4 P Γ N rest ((s.put (some t) (.u (.bool (!want)))).put dst .un) (fp ++ [([], [], 0)]) C k) : HD4 P Γ N (⟨dst, op, some (t, want)⟩ :: rest) s fp C k := fun s0 e => by
 have lit : ∀ b', b = b' -> s.Eqo (s.put (some t) (.u (.bool b'))) := fun b' e' => ⟨rfl, fun _ => rfl, rfl, fun x => by
  subst e';simp only [St.put, zaa];split
  ·rename_i hx; rw [hx, hb]
  ·rfl⟩
 have hp0 : zat dst s0 := by cases dst <;> simp_all [zat, e.1]
 by_cases hw : b = want
 ·have e1 := e.trans (lit want hw);obtain ⟨en, h1, h2, h5, h3, h4⟩ := hy hw s0 e1;refine ⟨en, h1, ?_, h3, h4⟩;unfold Op4 at h2 ⊢;by_cases h6 : en.2 = 2
  ·rw [if_pos h6] at h2 ⊢;exact h2
  ·rw [if_neg h6, if_neg h5] at h2 ⊢;exact ⟨h2.1, .inl ⟨b, by rw [e.2.2.2 t]; exact hb, by rw [if_pos hw]; exact h2.2⟩⟩
 ·have hw' : b = !want := by cases b <;> cases want <;> simp_all
  have e1 := e.trans (lit _ hw');refine ⟨((.un, [], none, []), 0), hp0, ?_, fun x hx => (by cases hx), hn hw' _ (e1.put dst .un)⟩;unfold Op4;rw [if_neg (by simp), if_neg (by simp)];exact ⟨rfl, .inl ⟨b, by rw [e.2.2.2 t]; exact hb, by rw [if_neg hw]; exact ⟨rfl, rfl, rfl⟩⟩⟩
theorem zoC {P Γ N s dst op rest fp C k t want} (hb : getK s.env t = some .un) (hp : zat dst s) (hn : HD4 P Γ N rest (s.put dst .un) (fp ++ [([], [], 0)]) C k) :
  HD4 P Γ N (⟨dst, op, some (t, want)⟩ :: rest) s fp C k := fun s0 e => by
 refine ⟨((.un, [], none, []), 0), by cases dst <;> simp_all [zat, e.1], ?_, fun x hx => (by cases hx), hn _ (e.put dst .un)⟩;unfold Op4;rw [if_neg (by simp), if_neg (by simp)];exact ⟨rfl, .inr ⟨by rw [e.2.2.2 t]; exact hb, rfl, rfl, rfl⟩⟩
theorem zsn {P Γ N s dst op g rest fp C k} (hp : zat dst s) (h : HD4 P Γ N rest (s.put dst .any) (fp ++ [([], [], 2)]) C k) : HD4 P Γ N (⟨dst, op, g⟩ :: rest) s fp C k := fun s0 e => by
 refine ⟨((.any, [], none, []), 2), by cases dst <;> simp_all [zat, e.1], ?_, fun x hx => (by cases hx), h _ (e.put dst .any)⟩;unfold Op4;rw [if_pos rfl];exact ⟨rfl, rfl⟩
theorem zmp (W : Wr) {o o' : List (Nat × Ob)} (h : ∀ y, getK o y = getK o' y) : ∀ y, getK (zai W o) y = getK (zai W o') y := fun y => by rw [zaZ, zaZ, h y]
theorem zi1 {O O' : List (Nat × Ob)} (L : List Nat) (hkeys : O'.map (·.1) = O.map (·.1)) (y : Nat) :
  y ∈ zeG ((O'.filter fun p => L.contains p.1).map (fun p => (p.1, some p.2)) : Wr) ↔ L.contains y = true /\ y ∈ O.map (·.1) := by
 rw [<- hkeys];simp only [zeG, List.map_map, List.mem_map, List.mem_filter, Function.comp];exact ⟨fun ⟨p, ⟨h1, h2⟩, h3⟩ => ⟨h3 ▸ h2, p, h1, h3⟩, fun ⟨h1, p, h2, h3⟩ => ⟨p, ⟨h2, by rw [h3]; exact h1⟩, h3⟩⟩
theorem zql {O O' : List (Nat × Ob)} (L : List Nat) (hkeys : O'.map (·.1) = O.map (·.1)) (y : Nat) (hy : y ∈ zeG ((O'.filter fun p => L.contains p.1).map (fun p => (p.1, some p.2)) : Wr)) :
  getK ((O'.filter fun p => L.contains p.1).map (fun p => (p.1, some p.2)) : Wr) y = some (getK O' y) := by
 obtain ⟨h1, h2⟩ := (zi1 L hkeys y).1 hy;rw [zjI, zk5, if_pos h1];obtain ⟨x, hx⟩ := zdq (l := O') (y := y) (by rw [hkeys]; exact h2);rw [hx]; rfl
theorem zqz {P : Program} {Γ : Ctx} {N : Nat} {s : St} {dst : Option Tmp} {rest fp C k} {fop : Operand} {args : Array Operand} {ts : Array TypeId} {f caps} {ds : List D} {d : D} (O O' : List (Nat × Ob)) (L : List Nat)
  (hret : ∀ nx, s.next <= nx -> RetX P f ds O nx fun r o n => r = .val d /\ (∀ y, getK o y = getK O' y) /\ n = nx)
  (hf : zag (opd s fop) = some (f, caps)) (hc : zae P f = true) (hds : args.toList.map (opd s) ++ caps = ds) (hkeys : O'.map (·.1) = O.map (·.1)) (hsm : ∀ y, L.contains y = false -> getK O' y = getK O y) (hO : ∀ p ∈ O, getK s.obs p.1 = some p.2) (hnd : (O.map (·.1)).Nodup)
  (hu : d.under N = true /\ ∀ p ∈ O', p.2.under N = true) (hp : zat dst s)
  (h : HD4 P Γ N rest (({ s with obs := zai ((O'.filter fun p => L.contains p.1).map fun p => (p.1, some p.2)) s.obs } : St).put dst d) (fp ++ [(O.map (·.1), (O'.filter fun p => L.contains p.1).map (·.1), 0)]) C k) :
  HD4 P Γ N (⟨dst, .call { callee := .value fop, args, argTypes := ts }, none⟩ :: rest) s fp C k := fun s0 e => by
 refine ⟨((d, (O'.filter fun p => L.contains p.1).map (fun p => (p.1, some p.2)), none, O.map (·.1)), 0), by cases dst <;> simp_all [zat, e.1], ?_, fun x hx => (by cases hx), ?_⟩
 ·unfold Op4;rw [if_neg (by simp), if_neg (by simp)];refine ⟨rfl, .inr (.inl ⟨⟨fop, args.toList, f, caps, O, O', L, rfl, by rw [zeh e]; exact hf, hc, rfl, zi1 L hkeys, zql L hkeys, hsm, fun p hp => by rw [e.2.1]; exact hO p hp, hnd, hu, fun nx hnx => ?_⟩, rfl⟩)⟩;have e1 : args.toList.map (opd s0) = args.toList.map (opd s) := List.map_congr_left fun x _ => zeh e x;rw [e1, hds];exact hret nx (by rw [e.2.2.1] at hnx; exact hnx)
 ·have := h (s0.app dst (d, (O'.filter fun p => L.contains p.1).map (fun p => (p.1, some p.2)), none, O.map (·.1))) (by
   simp only [St.app];apply St.Eqo.put;exact ⟨e.1, zmp _ e.2.1, by simpa using e.2.2.1, e.2.2.2⟩)
  simpa [zeG, List.map_map, Function.comp_def] using this
theorem zlD {P : Program} {Γ : Ctx} {N : Nat} {s : St} {dst : Option Tmp} {rest fp C k} {fop : Operand} {args : Array Operand} {ts : Array TypeId} {f caps} {ds : List D} (O : List (Nat × Ob)) (r : ERes) (nb : Ob)
  (hret : ∀ nx, s.next <= nx -> RetX P f ds O nx fun q o n => q = .val (mkD r.how nx) /\ (∀ y, getK o y = getK ((nx, nb) :: O) y) /\ n = nx + 1) (hr : r.U = [] /\ r.nw = some nb)
  (hf : zag (opd s fop) = some (f, caps)) (hc : zae P f = true) (hds : args.toList.map (opd s) ++ caps = ds) (hO : ∀ p ∈ O, getK s.obs p.1 = some p.2)
  (hu : nb.under N = true) (hp : zat dst s)
  (h : HD4 P Γ N rest (({ s with obs := (s.next, nb) :: s.obs, next := s.next + 1 } : St).put dst (mkD r.how s.next)) (fp ++ [(O.map (·.1), [s.next], 0)]) C k) :
  HD4 P Γ N (⟨dst, .call { callee := .value fop, args, argTypes := ts }, none⟩ :: rest) s fp C k := fun s0 e => by
 refine ⟨((mkD r.how s0.next, (s0.next, some nb) :: r.U, some s0.next, O.map (·.1)), 0), by cases dst <;> simp_all [zat, e.1], ?_, fun x hx => (by cases hx; rfl), ?_⟩
 ·unfold Op4;rw [if_neg (by simp), if_neg (by simp)];refine ⟨rfl, .inr (.inr ⟨fop, args.toList, f, caps, O, r, nb, s0.next, rfl, by rw [zeh e]; exact hf, hc, rfl, ⟨hr.1, hr.2, hu⟩, ⟨rfl, rfl, rfl⟩, fun p hp => by rw [e.2.1]; exact hO p hp, fun nx hnx => ?_⟩)⟩;have e1 : args.toList.map (opd s0) = args.toList.map (opd s) := List.map_congr_left fun x _ => zeh e x;rw [e1, hds];exact hret nx (by rw [e.2.2.1] at hnx; exact hnx)
 ·have h1 := h (s0.app dst (mkD r.how s0.next, (s0.next, some nb) :: r.U, some s0.next, O.map (·.1))) (by
   simp only [St.app, hr.1, e.2.2.1];apply St.Eqo.put;refine ⟨e.1, fun x => ?_, by simp, e.2.2.2⟩;simp only [zai, zad, zaa, zaZ, e.2.1 x])
  simp only [hr.1] at h1;simp only [zeG, List.map_cons, hr.1, List.map_nil];rw [e.2.2.1] at h1 ⊢;exact h1
theorem zof {O O' : List (Nat × Ob)} (hkeys : O'.map (·.1) = O.map (·.1)) : (O'.filter fun p => (O.map (·.1)).contains p.1) = O' := by
 refine List.filter_eq_self.2 fun p hp => ?_;rw [<- hkeys];simp only [List.contains_eq_mem, decide_eq_true_eq];exact List.mem_map.2 ⟨p, hp, rfl⟩
theorem zso {P : Program} {Γ : Ctx} {N : Nat} {s : St} {dst : Option Tmp} {rest fp C k} {fop : Operand} {args : Array Operand} {ts : Array TypeId} {f caps} {ds : List D} {d : D} (O O' : List (Nat × Ob))
  (hret : ∀ nx, s.next <= nx -> RetX P f ds O nx fun r o n => r = .val d /\ (∀ y, getK o y = getK O' y) /\ n = nx)
  (hf : zag (opd s fop) = some (f, caps)) (hc : zae P f = true) (hds : args.toList.map (opd s) ++ caps = ds) (hkeys : O'.map (·.1) = O.map (·.1)) (hO : ∀ p ∈ O, getK s.obs p.1 = some p.2) (hnd : (O.map (·.1)).Nodup)
  (hu : d.under N = true /\ ∀ p ∈ O', p.2.under N = true) (hp : zat dst s)
  (h : HD4 P Γ N rest (({ s with obs := zai (O'.map fun p => (p.1, some p.2)) s.obs } : St).put dst d) (fp ++ [(O.map (·.1), O'.map (·.1), 0)]) C k) :
  HD4 P Γ N (⟨dst, .call { callee := .value fop, args, argTypes := ts }, none⟩ :: rest) s fp C k :=
 zqz O O' (O.map (·.1)) hret hf hc hds hkeys (fun y hy => by
  rw [zcO O y (by simpa using hy), zcO O' y (by rw [hkeys]; simpa using hy)]) hO hnd hu hp (by rw [zof hkeys]; exact h)
theorem zsm {P : Program} {Γ : Ctx} {N : Nat} {s : St} {dst : Option Tmp} {rest fp C k} {fop : Operand} {args : Array Operand} {ts : Array TypeId} {f caps} {ds : List D} {post : Out -> List (Nat × Ob) -> Nat -> Prop} (O : List (Nat × Ob))
  (hret : ∀ nx, s.next <= nx -> RetX P f ds O nx post) (hno : ∀ d o n, ¬ post (.val d) o n)
  (hf : zag (opd s fop) = some (f, caps)) (hc : zae P f = true) (hds : args.toList.map (opd s) ++ caps = ds) (hO : ∀ p ∈ O, getK s.obs p.1 = some p.2) (hp : zat dst s)
  (hx : ∀ env ch o n, s.next <= n -> post (.pan ch) o n -> ∃ s2, Wk Γ { n := s.n, env := env, obs := (s.obs.filter fun p => !(O.map (·.1)).contains p.1) ++ o, next := n } s2 /\ Γ.pan ch s2)
  (h : HD4 P Γ N rest (s.put dst .any) (fp ++ [([], [], 1)]) C k) :
  HD4 P Γ N (⟨dst, .call { callee := .value fop, args, argTypes := ts }, none⟩ :: rest) s fp C k := fun s0 e => by
 refine ⟨((.any, [], none, []), 1), by cases dst <;> simp_all [zat, e.1], ?_, fun x hx => (by cases hx), h _ (e.put dst .any)⟩;unfold Op4;rw [if_neg (by simp), if_pos rfl];refine ⟨rfl, fun s' hn ho hopd hnx o hop hg hpo => ?_, rfl, rfl⟩;obtain ⟨odst, oop, ot, opos, oaf, og⟩ := o;simp only at hop hg hpo;subst hop;subst hg;have hopS : ∀ x ∈ fop :: args.toList, opd s' x = opd s x := fun x hx => by
  rw [hopd x (by
   simp only [Op.operands, Call.operands];simp only [List.mem_cons] at hx;simp;rcases hx with rfl | hx
   ·exact .inl rfl
   ·exact .inr (by simpa using hx)), zeh e]
 have hOget : ∀ y, getK s'.obs y = getK s.obs y := fun y => by rw [ho, e.2.1]
 have hcall : CallP P Γ fop args.toList odst s' fun _ => False :=
  CallP.xF (s'.obs.filter fun p => !(O.map (·.1)).contains p.1) O (hret s'.next (by rw [<- e.2.2.1]; exact hnx)) (fun y => by
   rw [zab, zc7];by_cases hy : (O.map (·.1)).contains y = true
   ·rw [if_pos hy];obtain ⟨x, hx⟩ := zdq (l := O) (y := y) (by simpa using hy);rw [hx, hOget y, hO _ (zfh hx)]
   ·rw [if_neg hy, zcO O y (by simpa using hy)];cases getK s'.obs y <;> rfl) (fun y ob hy => by
   rw [zc7] at hy;by_cases hc : (O.map (·.1)).contains y = true
   ·rw [if_pos hc] at hy; cases hy
   ·exact zcO O y (by simpa using hc)) (by rw [hopS fop (by simp)]; exact hf) hc (by rw [List.map_congr_left fun x hx => hopS x (by simp [hx])]; exact hds) hpo
   (fun d o1 nx' _ hp => absurd hp (hno d o1 nx')) (fun ch o1 nx' hn' hp => by
     obtain ⟨s2, h1, h2⟩ := hx s'.env ch o1 nx' (by have := e.2.2.1; omega) hp;refine ⟨s2, fun K a w hin hs => h1 K a w hin (hs.eqo ⟨by simp [hn, e.1], fun y => ?_, rfl, fun _ => rfl⟩), h2⟩;simp only [zab, zc7, hOget])
 exact hcall ts ot opos oaf
theorem znd {P : Program} {Γ : Ctx} {N : Nat} {all : Array Oper} {s0 : St} {ops : List Oper} {k : St -> Fp4 -> Prop} : ∀ (l : List O1) (tail : List Oper) (i : Nat) (E : Nat -> zsP), za5 all tail = some l -> (∀ j, tail[j]? = ops[i + j]?) ->
  zln P Γ N l (stE ops s0 (eE E) i) (tF4 E i) k -> ∃ E' : Nat -> zsP, (∀ j, j < i -> E' j = E j) /\
   (∀ j o, i <= j -> ops[j]? = some o -> zat o.dst s0 /\ (if (E' j).2 = 2 then tW (eE E') j = [] /\ tC (eE E') j = none else if (E' j).2 = 1 then o.guard = none /\ ztO P Γ (stE ops s0 (eE E') j) o.op /\ tW (eE E') j = [] /\ tC (eE E') j = none else
     (E' j).2 = 0 /\ zuL P N all (stE ops s0 (eE E') j) o (tT (eE E') j) (tW (eE E') j) (tC (eE E') j) (tR (eE E') j)) /\ ∀ x, tC (eE E') j = some x -> x = s0.next + cnt (eE E') j) /\
   k (stE ops s0 (eE E') (i + tail.length)) (tF4 E' (i + tail.length))
 | [], tail, i, E, hs, ht, h => by
  cases tail with
  | nil => exact ⟨E, fun _ _ => rfl, fun j o hj ho => by have := ht (j - i); rw [show i + (j - i) = j by omega, ho] at this; simp at this, by simpa [zln] using h⟩
  | cons x l => simp only [za5] at hs; split at hs <;> simp at hs
 | o1 :: l, tail, i, E, hs, ht, h => by
  obtain ⟨x, tl, rfl, hx, hr⟩ := zdo hs;obtain ⟨e, hp, hv, hnx, hc⟩ := h;have hxi : ops[i]? = some x := by have := ht 0; simpa using this.symm
  have hdst : o1.dst = x.dst /\ o1.op = x.op := by
   unfold zcH at hx;split at hx
   ·simp at hx; subst hx; exact ⟨rfl, rfl⟩
   ·split at hx
    ·simp at hx; subst hx; exact ⟨rfl, rfl⟩
    ·cases hx
  let E1 : Nat -> zsP := fun j => if j = i then e else E j
  have h1 : ∀ j, j < i -> E j = E1 j := fun j hj => by simp only [E1]; rw [if_neg (by omega)]
  have h1' : ∀ j, j < i -> eE E j = eE E1 j := fun j hj => by simp only [eE, h1 j hj]
  have hi : E1 i = e := by simp [E1]
  have hi' : eE E1 i = e.1 := by simp only [eE, hi]
  have zb4 : (stE ops s0 (eE E) i).app o1.dst e.1 = stE ops s0 (eE E1) (i + 1) := by
   rw [zkh h1', hdst.1];simp only [stE, St.app];rw [zlh (tT (eE E1)) i ops 0 s0.env x (Nat.zero_le _) (by simpa using hxi)];have hw : zfM (tW (eE E1)) (fun _ => true) (i + 1) = e.1.2.1 ++ zfM (tW (eE E1)) (fun _ => true) i := by
    rw [zfM, if_pos rfl, show tW (eE E1) i = e.1.2.1 by simp only [tW, hi']]
   have hcn : cnt (eE E1) (i + 1) = cnt (eE E1) i + if e.1.2.2.1.isSome then 1 else 0 := by
    rw [cnt, show tC (eE E1) i = e.1.2.2.1 by simp only [tC, hi']]
   rw [hw, zeW, hcn];have hT : tT (eE E1) i = e.1.1 := by simp only [tT, hi']
   cases x.dst with
   | none => simp only [St.put, Nat.add_assoc]
   | some y => simp only [St.put, hT, Nat.add_assoc]
  have hfp : tF4 E i ++ [(e.1.2.2.2, zeG e.1.2.1, e.2)] = tF4 E1 (i + 1) := by
   have hc1 : tF4 E i = tF4 E1 i := List.map_congr_left fun j hj => by
    have := h1 j (List.mem_range.1 hj);simp only [eE, tR, tW, this]
   rw [hc1];simp only [tF4, List.range_succ, List.map_append, List.map_cons, List.map_nil];rw [show tR (eE E1) i = e.1.2.2.2 by simp only [tR, hi'], show tW (eE E1) i = e.1.2.1 by simp only [tW, hi'], hi]
  rw [zb4, hfp] at hc;obtain ⟨E', g1, g2, g3⟩ := znd l tl (i + 1) E1 hr (fun j => by have := ht (j + 1); rw [show i + 1 + j = i + (j + 1) by omega, <- this]; simp) hc;refine ⟨E', fun j hj => by rw [g1 j (by omega), h1 j hj], fun j o hj ho => ?_, ?_⟩
  ·rcases Nat.lt_or_ge i j with h' | h'
   ·exact g2 j o h' ho
   ·obtain rfl : i = j := by omega
    rw [hxi] at ho;cases ho;have hEi : E' i = e := by rw [g1 i (by omega), hi]
    have hEi' : eE E' i = e.1 := by simp only [eE, hEi]
    have hst : stE ops s0 (eE E') i = stE ops s0 (eE E) i := zkh fun j hj => by simp only [eE]; rw [g1 j (by omega), <- h1 j hj]
    refine ⟨by rw [hdst.1] at hp; exact hp, ?_, fun y hy => ?_⟩
    ·rw [hst];simp only [tT, tW, tC, tR, hEi, hEi'];unfold Op4 at hv;by_cases c2 : e.2 = 2
     ·rw [if_pos c2] at hv ⊢;exact hv
     ·rw [if_neg c2] at hv ⊢;by_cases c1 : e.2 = 1
      ·rw [if_pos c1] at hv ⊢;obtain ⟨v1, v2, v3⟩ := hv;refine ⟨?_, by rw [<- hdst.2]; exact v2, v3⟩;unfold zcH at hx;split at hx
       ·rename_i hg; exact hg
       ·split at hx
        ·simp at hx; subst hx; cases v1
        ·cases hx
      ·rw [if_neg c1] at hv ⊢;obtain ⟨v0, hv⟩ := hv;refine ⟨v0, ?_⟩;unfold zcH at hx;unfold zuL;unfold zvY at hv;split at hx
       ·rename_i hg;simp at hx;subst hx
        try rw [hg]
        exact hv
       ·rename_i q want hg;split at hx
        ·rename_i t ht';simp at hx;subst hx
         try rw [hg]
         exact ⟨t, ht', hv⟩
        ·cases hx
    ·have : tC (eE E') i = e.1.2.2.1 := by simp only [tC, hEi']
     rw [this] at hy;have := hnx y hy;rw [this, zh9 (eE E') (eE E) i fun j hj => by simp only [eE]; rw [g1 j (by omega), <- h1 j hj]]
     try rfl
  ·rw [show i + (x :: tl).length = i + 1 + tl.length by simp; omega];exact g3
def zsw (ops : List Oper) (fp : Fp4) : Bool :=
 okP ops (fp.map fun p => (p.1, p.2.1)) &&
 (List.range ops.length).all fun j => ((fp.getD j ([], [], 0)).2.2 != 2 || (List.range ops.length).any fun p => (fp.getD p ([], [], 0)).2.2 == 1 && zfW ops ops.length p j) &&
   ((fp.getD j ([], [], 0)).2.2 != 1 || (List.range ops.length).all fun i => (fp.getD i ([], [], 0)).2.1.isEmpty || zfW ops ops.length i j || zfW ops ops.length j i)
theorem zse {P Γ s} {R0 : Exit -> St -> Prop} {l : List Oper} (hord : znQ l = true) (hn0 : Γ.n0 <= s.next)
  (h : ∀ (C : Fp4 -> Prop) (k : St -> Prop), (∀ fp, zsw l fp = true -> C fp) -> (∀ s', R0 .normal s' -> k s') -> match za5 l.toArray l with | some l' => HD4 P Γ s.next l' s [] C k | none => False) :
  VA P Γ l s R0 := by
 have := h (fun fp => zsw l fp = true) _ (fun _ h => h) fun _ h => h;split at this
 ·rename_i l' hl;have h0 : stE l s (eE fun _ => default) 0 = s := by
   have hnone : ∀ (l : List Oper) (i : Nat) (e : List (Nat × D)), zgb (tT (eE fun _ => default)) (fun j => decide (j < 0)) l i e = e := by
    intro l
    induction l with
    | nil => intro i e; rfl
    | cons o l ih => intro i e; exact ih (i + 1) e
   simp only [stE, hnone]
   try rfl
  have hc := this s (.refl s);rw [<- h0] at hc;obtain ⟨E, _, h2, hok, hfin⟩ := znd l' l 0 (fun _ => default) hl (fun j => by rw [Nat.zero_add]) hc;rw [Nat.zero_add] at hok hfin;simp only [zsw, Bool.and_eq_true] at hok;obtain ⟨hok1, hok2⟩ := hok;have hlen4 : ∀ i, i < l.length -> (tF4 E l.length).getD i ([], [], 0) = (tR (eE E) i, zeG (tW (eE E) i), (E i).2) := fun i hi => by
   simp [tF4, hi]
  have hlen : ∀ i, i < l.length -> ((tF4 E l.length).map fun p => (p.1, p.2.1)).getD i ([], []) = (tR (eE E) i, zeG (tW (eE E) i)) := fun i hi => by
   simp [tF4, hi]
  have mono : ∀ i j, i <= j -> cnt (eE E) i <= cnt (eE E) j := fun i j hij => by
   induction hij with
   | refl => exact Nat.le_refl _
   | step _ ih => simp only [cnt]; omega
  have hcr : ∀ i x, i < l.length -> tC (eE E) i = some x -> x = s.next + cnt (eE E) i /\ cnt (eE E) (i + 1) = cnt (eE E) i + 1 := fun i x hi hx => by
   have := (h2 i _ (Nat.zero_le _) (List.getElem?_eq_getElem hi)).2.2 x hx;exact ⟨this, by simp only [cnt, hx]; rfl⟩
  let cr : Nat -> Option Nat := fun i => if i < l.length then tC (eE E) i else none
  let kd : Nat -> Nat := fun i => if i < l.length then (E i).2 else 0
  let W : Nat -> Wr := fun i => if i < l.length then tW (eE E) i else []
  have hWe : ∀ i, i < l.length -> W i = tW (eE E) i := fun i hi => by simp only [W]; rw [if_pos hi]
  refine zsf (T := tT (eE E)) (W := W) (cr := cr) (R := tR (eE E)) (kd := kd) (M := s.next + cnt (eE E) l.length) hord hn0 (by omega) (fun i x hx => ?_) (fun i j x hi hj => ?_) (fun i j hij hj hb => ?_) (fun i hk => ?_) (fun p i hp hi hw => ?_) (fun i o ho => ?_) (fun hnk => ?_)
  ·simp only [cr] at hx;split at hx
   ·rename_i hi;obtain ⟨e1, e2⟩ := hcr i x hi hx;have := mono (i + 1) l.length hi;omega
   ·cases hx
  ·simp only [cr] at hi hj;split at hi
   ·rename_i hil;split at hj
    ·rename_i hjl;obtain ⟨e1, e2⟩ := hcr i x hil hi;obtain ⟨e3, e4⟩ := hcr j x hjl hj;rcases Nat.lt_trichotomy i j with hlt | hlt | hlt
     ·have := mono (i + 1) j hlt;omega
     ·exact hlt
     ·have := mono (j + 1) i hlt;omega
    ·cases hj
   ·cases hi
  ·have := (List.all_eq_true.1 ((List.all_eq_true.1 hok1) j (List.mem_range.2 hj))) i (List.mem_range.2 hij);rw [hb, hlen i (by omega), hlen j hj] at this;simp only [Bool.false_or, Bool.and_eq_true] at this;rw [hWe i (by omega), hWe j hj];refine ⟨fun y hy => ?_, fun y hy => zli this.2 y hy⟩;have := zli this.1 y hy;rw [List.mem_append, not_or] at this;exact this
  ·simp only [kd] at hk;split at hk
   ·rename_i hi;obtain ⟨_, g2, _⟩ := h2 i _ (Nat.zero_le _) (List.getElem?_eq_getElem hi);have hci : cr i = tC (eE E) i := by simp only [cr]; rw [if_pos hi]
    rw [hWe i hi, hci];by_cases c2 : (E i).2 = 2
    ·rw [if_pos c2] at g2; exact g2
    ·rw [if_neg c2] at g2;by_cases c1 : (E i).2 = 1
     ·rw [if_pos c1] at g2; exact g2.2.2
     ·rw [if_neg c1] at g2; exact absurd g2.1 hk
   ·exact absurd rfl hk
  ·simp only [kd] at hp;split at hp
   ·rename_i hpl;have := (List.all_eq_true.1 hok2) p (List.mem_range.2 hpl);rw [Bool.and_eq_true, hlen4 p hpl] at this;have h3 := this.2;simp only [hp] at h3;have h4 : ((List.range l.length).all fun i => ((tF4 E l.length).getD i ([], [], 0)).2.1.isEmpty || zfW l l.length i p || zfW l l.length p i) = true := by simpa using h3
    have h5 := (List.all_eq_true.1 h4) i (List.mem_range.2 hi);rw [hlen4 i hi] at h5;simp only [Bool.or_eq_true] at h5;rcases h5 with (h5 | h5) | h5
    ·exfalso;apply hw;rw [hWe i hi];have : zeG (tW (eE E) i) = [] := by simpa using h5
     simpa [zeG] using this
    ·exact .inl h5
    ·exact .inr h5
   ·cases hp
  ·have hi := (List.getElem?_eq_some_iff.1 ho).1;obtain ⟨g1, g2, g3⟩ := h2 i o (Nat.zero_le _) ho;refine ⟨g1, ?_⟩;have hwl : ∀ S m, m <= l.length -> zfM W S m = zfM (tW (eE E)) S m := fun S m hm => zeJ W (tW (eE E)) S m fun j hj => hWe j (by omega);have hst : stW l (tT (eE E)) W s (s.next + cnt (eE E) l.length) (fun j => decide (j < i)) = { stE l s (eE E) i with next := s.next + cnt (eE E) l.length } := by
    simp only [stW, stE];rw [hwl _ _ (Nat.le_refl _), zj8 (tW (eE E)) i l.length (by omega)]
   have hcri : cr i = tC (eE E) i := by simp only [cr]; rw [if_pos hi]
   have hkdi : kd i = (E i).2 := by simp only [kd]; rw [if_pos hi]
   rw [hst, hcri, hkdi, hWe i hi];have opo : ∀ x, opd { stE l s (eE E) i with next := s.next + cnt (eE E) l.length } x = opd (stE l s (eE E) i) x := fun x => by cases x <;> rfl
   have eqo : ∀ (op : Op) (r : D -> Prop), valD P { stE l s (eE E) i with next := s.next + cnt (eE E) l.length } op r = valD P (stE l s (eE E) i) op r := fun op r => zno rfl fun x _ => by cases x <;> rfl
   have ero : ∀ (op : Op), zb3 { stE l s (eE E) i with next := s.next + cnt (eE E) l.length } op = zb3 (stE l s (eE E) i) op := fun op => by
    have e : opd { stE l s (eE E) i with next := s.next + cnt (eE E) l.length } = opd (stE l s (eE E) i) := funext fun x => by cases x <;> rfl
    unfold zb3 zbg zb7;rw [e]
   have efo : ∀ (op : Op) (r : ERes -> Prop), effD P { stE l s (eE E) i with next := s.next + cnt (eE E) l.length } op r = effD P (stE l s (eE E) i) op r := fun op r =>
    propext ⟨zgc (fun _ _ => rfl) fun x _ => by cases x <;> rfl, zgc (fun _ _ => rfl) fun x _ => by cases x <;> rfl⟩
   have hle : (stE l s (eE E) i).next <= s.next + cnt (eE E) l.length := by
    have := mono i l.length (by omega);simp only [stE]; omega
   have cao : ∀ (op : Op) (d : D) (W : Wr) (R : List Nat), ztZ P s.next (stE l s (eE E) i) op d W R -> ztZ P s.next { stE l s (eE E) i with next := s.next + cnt (eE E) l.length } op d W R :=
    fun op d W R ⟨fop, args, f, caps, O, O', L, q1, q2, q3, q4, q5, q6, q6b, q7, q8, q9, q10⟩ => ⟨fop, args, f, caps, O, O', L, q1, by rw [opo]; exact q2, q3, q4, q5, q6, q6b, q7, q8, q9, fun nx hnx => by
     rw [List.map_congr_left fun x _ => opo x];exact q10 nx (Nat.le_trans hle hnx)⟩
   have c1x : ∀ (op : Op) (dst : Option Tmp) (d : D) (W : Wr) (cr : Option Nat) (R : List Nat), ztR P s.next (stE l s (eE E) i) op dst d W cr R -> ztR P s.next { stE l s (eE E) i with next := s.next + cnt (eE E) l.length } op dst d W cr R :=
    fun op dst d W cr R h => by
     rcases h with h | ⟨h, hc⟩ | ⟨fop, args, f, caps, O, e, nb, x0, q1, q2, q3, q4, q5, q6, q7, q8⟩
     ·left;unfold Op1 at h ⊢;simp only [eqo, ero, efo];exact h
     ·exact .inr (.inl ⟨cao _ _ _ _ h, hc⟩)
     ·exact .inr (.inr ⟨fop, args, f, caps, O, e, nb, x0, q1, by rw [opo]; exact q2, q3, q4, q5, q6, q7, fun nx hnx => by
       rw [List.map_congr_left fun x _ => opo x];exact q8 nx (Nat.le_trans hle hnx)⟩)
   by_cases k2 : (E i).2 = 2
   ·rw [if_pos k2];have := (List.all_eq_true.1 hok2) i (List.mem_range.2 hi);rw [Bool.and_eq_true, hlen4 i hi] at this;have h3 := this.1;simp only [k2] at h3;have h4 : ((List.range l.length).any fun p => ((tF4 E l.length).getD p ([], [], 0)).2.2 == 1 && zfW l l.length p i) = true := by simpa using h3
    obtain ⟨p, hp, h5⟩ := List.any_eq_true.1 h4;have hpl := List.mem_range.1 hp;rw [hlen4 p hpl, Bool.and_eq_true] at h5;exact ⟨p, by simp only [kd]; rw [if_pos hpl]; simpa using h5.1, hpl, h5.2⟩
   ·rw [if_neg k2] at g2 ⊢;by_cases k1 : (E i).2 = 1
    ·rw [if_pos k1] at g2 ⊢;refine ⟨g2.1, fun s' a1 a2 a3 a4 => g2.2.1 s' a1 a2 (fun x hx => by rw [a3 x hx, opo]) (Nat.le_trans hle a4)⟩
    ·rw [if_neg k1] at g2 ⊢;obtain ⟨_, g2⟩ := g2;unfold zuL at g2 ⊢;split
     ·rename_i hg; rw [hg] at g2; exact c1x _ _ _ _ _ _ g2
     ·rename_i j want hg;rw [hg] at g2;obtain ⟨t, ht, g2⟩ := g2;refine ⟨t, ht, ?_⟩;rcases g2 with ⟨b, hb, g2⟩ | g2
      ·refine .inl ⟨b, hb, ?_⟩;split
       ·rename_i hbw; rw [if_pos hbw] at g2; exact c1x _ _ _ _ _ _ g2
       ·rename_i hbw; rw [if_neg hbw] at g2; exact g2
      ·exact .inr g2
  ·obtain ⟨s', h3, h4⟩ := hfin fun p hp => by
    obtain ⟨i, hi, rfl⟩ := List.mem_map.1 hp;have hil := List.mem_range.1 hi;have := hnk i hil;simp only [kd] at this;rw [if_pos hil] at this;exact this
   refine ⟨s', St.Eqo.trans (b := stE l s (eE E) l.length) ⟨rfl, fun x => ?_, rfl, fun x => ?_⟩ h3, h4⟩
   ·simp only [stW, stE];rw [zeJ W (tW (eE E)) (fun _ => true) l.length fun j hj => hWe j hj]
   ·simp only [stW, stE];exact zea (tT (eE E)) _ _ x l 0 s.env s.env rfl fun j o hj _ => by
     have := (List.getElem?_eq_some_iff.1 hj).1;simp [this]
 ·exact this.elim
theorem ztJ {P Γ s} {Q : Exit -> St -> Prop} {kt : Kt} {id : Nat} {l : List Oper} (hm : P.follows .mixedOrders = true) (hord : znQ l = true) (hn0 : Γ.n0 <= s.next)
  (h : ∀ (C : Fp4 -> Prop) (k : St -> Prop), (∀ fp, zsw l fp = true -> C fp) -> (∀ s', zaX P Γ Q kt .normal s' -> k s') -> match za5 l.toArray l with | some l' => HD4 P Γ s.next l' s [] C k | none => False) :
  V P Γ (.region id l.toArray true) s (zaX P Γ Q kt) := fun K a w hin hs => by
 refine wp_region_any hm ?_;exact zse (R0 := zaX P Γ Q kt) hord hn0 h K a w hin hs
end Go.VL
namespace Go.VL
open Go
def zkt (ids : List Nat) (nx k : Nat) : Nat := match ids[k]? with | some x => x | none => nx + (k - ids.length)
theorem zq0 {ids : List Nat} {nx : Nat} (hd : ids.Nodup) (hlt : ∀ x ∈ ids, x < nx) {a b : Nat} (h : zkt ids nx a = zkt ids nx b) : a = b := by
 unfold zkt at h;rcases ha : ids[a]? with _ | x <;> rcases hb : ids[b]? with _ | y <;> rw [ha, hb] at h <;> simp only at h
 ·have := List.getElem?_eq_none_iff.1 ha;have := List.getElem?_eq_none_iff.1 hb;omega
 ·have := hlt y (List.mem_of_getElem? hb);omega
 ·have := hlt x (List.mem_of_getElem? ha);omega
 ·obtain ⟨h1, h2⟩ := List.getElem?_eq_some_iff.1 ha;obtain ⟨h3, h4⟩ := List.getElem?_eq_some_iff.1 hb;rw [List.nodup_iff_pairwise_ne, List.pairwise_iff_getElem] at hd;rcases Nat.lt_trichotomy a b with hlt' | hlt' | hlt'
  ·exact absurd (h2.trans (h.trans h4.symm)) (hd a b h1 h3 hlt')
  ·exact hlt'
  ·exact absurd (h2.trans (h.trans h4.symm)).symm (hd b a h3 h1 hlt')
inductive KL (ids : List Nat) (nx : Nat) : List Nat -> List Nat -> Prop
 | nil : KL ids nx [] []
 | cons (k : Nat) {x l l0} (h : zkt ids nx k = x) (t : KL ids nx l l0) : KL ids nx (x :: l) (k :: l0)
theorem KL.map {ids nx l l0} (h : KL ids nx l l0) : l = l0.map (zkt ids nx) := by
 induction h with
 | nil => rfl
 | cons k h t ih => rw [List.map_cons, h, <- ih]
inductive KF (ids : List Nat) (nx : Nat) : Fp4 -> Fp4 -> Prop
 | nil : KF ids nx [] []
 | cons {a a0 b b0 k fp fp0} (h1 : KL ids nx a a0) (h2 : KL ids nx b b0) (h3 : KF ids nx fp fp0) : KF ids nx ((a, b, k) :: fp) ((a0, b0, k) :: fp0)
theorem KF.map {ids nx l l0} (h : KF ids nx l l0) : l = l0.map fun p => (p.1.map (zkt ids nx), p.2.1.map (zkt ids nx), p.2.2) := by
 induction h with
 | nil => rfl
 | cons h1 h2 _ ih => rw [List.map_cons, <- h1.map, <- h2.map, <- ih]
theorem zp3 {ρ : Nat -> Nat} (hρ : ∀ a b, ρ a = ρ b -> a = b) (a b : List Nat) : zoj (a.map ρ) (b.map ρ) = zoj a b := by
 unfold zoj;rw [List.all_map]
 congr 1
 funext y;simp only [Function.comp]
 congr 1
 rw [Bool.eq_iff_iff];simp only [List.contains_eq_mem, decide_eq_true_eq, List.mem_map];exact ⟨fun ⟨z, h1, h2⟩ => hρ _ _ h2 ▸ h1, fun h => ⟨y, h, rfl⟩⟩
theorem zc0 {ops : List Oper} {fp : Fp4} (ids : List Nat) (nx : Nat) (hd : ids.Nodup) (hlt : ∀ x ∈ ids, x < nx) (h : ∃ fp0, KF ids nx fp fp0 /\ zsw ops fp0 = true) : zsw ops fp = true := by
 obtain ⟨fp0, hk, h⟩ := h;have hr := hk.map;subst hr;have hρ : ∀ a b, zkt ids nx a = zkt ids nx b -> a = b := fun a b => zq0 hd hlt;have g4 : ∀ i, (fp0.map fun p => (p.1.map (zkt ids nx), p.2.1.map (zkt ids nx), p.2.2)).getD i ([], [], 0) = (((fp0.getD i ([], [], 0)).1.map (zkt ids nx), (fp0.getD i ([], [], 0)).2.1.map (zkt ids nx), (fp0.getD i ([], [], 0)).2.2)) := fun i => by
  simp only [List.getD_eq_getElem?_getD, List.getElem?_map];cases fp0[i]? <;> rfl
 have g2 : ∀ i, ((fp0.map fun p => (p.1.map (zkt ids nx), p.2.1.map (zkt ids nx), p.2.2)).map fun p => (p.1, p.2.1)).getD i ([], []) =
   ((((fp0.map fun p => (p.1, p.2.1)).getD i ([], [])).1.map (zkt ids nx), ((fp0.map fun p => (p.1, p.2.1)).getD i ([], [])).2.map (zkt ids nx))) := fun i => by
  simp only [List.getD_eq_getElem?_getD, List.getElem?_map];cases fp0[i]? <;> rfl
 unfold zsw okP at h ⊢;simp only [g4, g2, <- List.map_append, zp3 hρ, List.isEmpty_map] at h ⊢;exact h
theorem zj4 {P : Program} {Γ : Ctx} {N : Nat} {s : St} {dst : Option Tmp} {rest fp C k} {fop : Operand} {args : Array Operand} {ts : Array TypeId} {f caps} {ds : List D} {d : D} {j : Nat} {ob ob' : Ob}
  (hret : ∀ nx, s.next <= nx -> RetX P f ds [(j, ob)] nx fun r o n => r = .val d /\ o = [(j, ob')] /\ n = nx)
  (hj : getK s.obs j = some ob) (hf : zag (opd s fop) = some (f, caps)) (hc : zae P f = true) (hds : args.toList.map (opd s) ++ caps = ds)
  (hu : d.under N = true /\ ob'.under N = true) (hp : zat dst s)
  (h : HD4 P Γ N rest (({ s with obs := zai [(j, some ob')] s.obs } : St).put dst d) (fp ++ [([j], [j], 0)]) C k) :
  HD4 P Γ N (⟨dst, .call { callee := .value fop, args, argTypes := ts }, none⟩ :: rest) s fp C k :=
 zso [(j, ob)] [(j, ob')] (fun nx hnx => (hret nx hnx).mono fun r o n ⟨h1, h2, h3⟩ => ⟨h1, fun y => by rw [h2], h3⟩) hf hc hds rfl (by simpa using hj) (by simp) ⟨hu.1, by simpa using hu.2⟩ hp h
theorem zhr {P : Program} {Γ : Ctx} {N : Nat} {s : St} {dst : Option Tmp} {rest fp C k} {fop : Operand} {args : Array Operand} {ts : Array TypeId} {f caps} {ds : List D} {j : Nat} {ob : Ob} {ch : List PanicEntry} {p : Ob -> Prop}
  (hret : ∀ nx, s.next <= nx -> RetX P f ds [(j, ob)] nx fun r o n => r = .pan ch /\ (∃ ob', p ob' /\ o = [(j, ob')]) /\ n = nx)
  (hj : getK s.obs j = some ob) (hf : zag (opd s fop) = some (f, caps)) (hc : zae P f = true) (hds : args.toList.map (opd s) ++ caps = ds) (hp : zat dst s)
  (hx : ∀ env ob' n, s.next <= n -> p ob' -> ∃ s2, Wk Γ { n := s.n, env := env, obs := del s.obs j ++ [(j, ob')], next := n } s2 /\ Γ.pan ch s2)
  (h : HD4 P Γ N rest (s.put dst .any) (fp ++ [([], [], 1)]) C k) :
  HD4 P Γ N (⟨dst, .call { callee := .value fop, args, argTypes := ts }, none⟩ :: rest) s fp C k := by
 have hfil : (s.obs.filter fun p => !(([(j, ob)] : List (Nat × Ob)).map (·.1)).contains p.1) = del s.obs j := by
  unfold del
  congr 1
  funext p;simp only [List.map_cons, List.map_nil, List.contains_cons, List.contains_nil, Bool.or_false]
 refine zsm (post := fun r o _ => r = .pan ch /\ ∃ ob', p ob' /\ o = [(j, ob')]) [(j, ob)] (fun nx hnx => (hret nx hnx).mono fun r o n ⟨h1, h2, _⟩ => ⟨h1, h2⟩) (fun d o n h => by cases h.1) hf hc hds (by simpa using hj) hp (fun env ch' o n hn h => ?_) h;obtain ⟨h1, ob', h2, rfl⟩ := h;cases h1;rw [hfil];exact hx env ob' n hn h2
theorem zgp {P Γ N s dst op g rest fp C k} (_ : (fp.any fun p => p.2.2 == 1) = true) (hp : zat dst s) (h : HD4 P Γ N rest (s.put dst .any) (fp ++ [([], [], 2)]) C k) : HD4 P Γ N (⟨dst, op, g⟩ :: rest) s fp C k := zsn hp h
theorem FinOK.cut {n0 : Nat} {post : D -> List (Nat × Ob) -> Nat -> Prop} {s : St} {d : D} (obs : List (Nat × Ob)) (N : Nat) (ho : ∀ p ∈ obs, getK s.obs p.1 = some p.2 /\ p.1 < N /\ p.2.under N = true) (hd : d.under N = true) (hn : n0 <= N)
  (h : post d obs N) : FinOK n0 post s d :=
 .inl ⟨{ s with env := [], obs := obs, next := N }, fun i => i, d, ⟨rfl, fun x d' hx => by simp [getK] at hx, fun x d' hx => by simp [getK] at hx,
  fun i ob hi => ⟨(ho _ (zfQ hi)).2.1, ob, (ho _ (zfQ hi)).1, Ob.le_id ob, (ho _ (zfQ hi)).2.2⟩, fun _ _ _ _ _ _ h => h, fun i hi => ⟨rfl, Nat.lt_of_lt_of_le hi hn⟩⟩, D.le_id d, hd, hn, h⟩
def zs8 : D -> Bool
 | .vec .. => true
 | _ => false
theorem zbX {P : Program} {Γ : Ctx} {s : St} {k : St -> Prop} {dst : Option Tmp} {fop : Operand} {args : List Operand} (_ : (args.map (opd s)).any zs8 = true) (h : CallP P Γ fop args dst (frzN 1 s) k) : CallP P Γ fop args dst s k :=
 znk (Wk.frzN 1 _) h
end Go.VL
namespace Go.VL
open Go
def zcx {α : Type} (obs : List (Nat × α)) : List Nat -> List (Nat × α)
 | [] => obs
 | i :: l => zcx (del obs i) l
theorem zfU {α : Type} : ∀ (l : List Nat) (obs : List (Nat × α)), zcx obs l = obs.filter fun p => !l.contains p.1
 | [], obs => by rw [zcx]; exact (List.filter_eq_self.2 (by simp)).symm
 | i :: l, obs => by
  rw [zcx, zfU l, del, List.filter_filter]
  congr 1
  funext p;simp only [List.contains_cons];cases p.1 == i <;> cases l.contains p.1 <;> rfl
theorem zna {obs O : List (Nat × Ob)} (hO : ∀ p ∈ O, getK obs p.1 = some p.2) (i : Nat) : getK obs i = getK (zcx obs (O.map (·.1)) ++ O) i := by
 rw [zfU, zab, zc7];by_cases hy : (O.map (·.1)).contains i = true
 ·rw [if_pos hy];obtain ⟨x, hx⟩ := zdq (l := O) (y := i) (by simpa using hy);rw [hx, hO _ (zfh hx)]
 ·rw [if_neg hy, zcO O i (by simpa using hy)];cases getK obs i <;> rfl
theorem zlj {obs O : List (Nat × Ob)} (i : Nat) (ob : Ob) (h : getK (zcx obs (O.map (·.1))) i = some ob) : getK O i = none := by
 rw [zfU, zc7] at h;by_cases hc : (O.map (·.1)).contains i = true
 ·rw [if_pos hc] at h; cases h
 ·exact zcO O i (by simpa using hc)
theorem CallP.okL {P : Program} {Γ : Ctx} {s : St} {k : St -> Prop} {dst : Option Tmp} {fop : Operand} {args : List Operand} {f caps} {ds : List D} {O O' : List (Nat × Ob)} {d : D} {N : Nat}
  (hret : RetX P f ds O s.next fun r o n => r = .val d /\ o = O' /\ n = N) (hO : ∀ p ∈ O, getK s.obs p.1 = some p.2)
  (hf : zag (opd s fop) = some (f, caps)) (hc : zae P f = true) (hds : args.map (opd s) ++ caps = ds) (hp : zat dst s)
  (hk : k (({ s with obs := zcx s.obs (O.map (·.1)) ++ O', next := N } : St).put dst d)) : CallP P Γ fop args dst s k :=
 CallP.xF (zcx s.obs (O.map (·.1))) O hret (zna hO) zlj hf hc hds hp (fun d' o1 nx' _ ⟨h1, h2, h3⟩ => by cases h1; subst h2; subst h3; exact hk) (fun ch o1 nx' _ ⟨h1, _⟩ => by cases h1)
theorem LeaveD.of {P : Program} {Γb : Ctx} {fn : Func} {post : Out -> List (Nat × Ob) -> Nat -> Prop} {g : FuncId} {caps : List D} {u : FrameMode} {s : St} (O : List (Nat × Ob)) {O' : List (Nat × Ob)} (hO : ∀ p ∈ O, getK s.obs p.1 = some p.2)
  (h : RetDf P g caps O s.next u fun u' o n => settle u' = .returning /\ n = s.next /\ o = O') (hk : EndW P Γb fn Γb.n0 (fun d o n => post (.val d) o n) .ret { s with obs := zcx s.obs (O.map (·.1)) ++ O', next := s.next }) :
  LeaveD P Γb fn post g caps u s :=
 ((h.frame (zcx s.obs (O.map (·.1))) zlj).congr (zna hO)).mono fun u' o n ⟨o1, ho, hs, hn, ho1⟩ => ⟨hs, by subst ho; subst ho1; subst hn; exact hk⟩
theorem nef {i nx : Nat} (h : i < nx) : ¬ i = nx /\ ¬ nx = i /\ (∀ k, ¬ i = nx + k) /\ ∀ k, ¬ nx + k = i := ⟨by omega, by omega, fun k => by omega, fun k => by omega⟩
end Go.VL
namespace Go.VL
open Go
open Go.ChangeShapes Go.WideShapes Go.ChangeAt Go.WideMaps Go.WideElems Go.RowKit
theorem zro {H : Type} {enc : TypeId × Value -> H} {C : Checked} {os : Os} {f : FuncId} {fn : Func} {s : ChangeSpec} {conds : List PathCond} {apart fresh handsOn again : Bool} {tb : TypeId} {laid : List (String × DataW Unit)}
  (own : ownKnob C.prog.godebug = none) (started : os.Started) (noInit : C.prog.inits.idxOf? f = none) (hfn : C.prog.funcs[f]? = some fn)
  (witness : ∃ (w : World) (tape : Tape) (i : Input), w.os = os /\ (w.forCall tape i).Shaped C.prog /\ i.vars = [] /\ Input.okWide C.prog (w.forCall tape i) .any w.heap.size f i /\
    ((s.pre enc C.prog fn conds apart (w.forCall tape i).memory i.args /\ laidMetH C.prog laid (w.forCall tape i).memory) /\ sizedMet enc C.prog fn (OpenSpec.ofChange s) apart (w.forCall tape i).memory i.args) /\ (({} : Assume)).holds C.prog (lone (Frame.enter C.prog f i.args .normal) [] (w.forCall tape i)))
  (hl : laidOutB C.prog = true) (hseq : ziy C.prog = true) (hpar : (fn.params.toList.all fun t => C.prog.readableRec t && decide (t < C.prog.types.size)) = true)
  (hvars : s.vars = []) (hspec : ∀ ds : List (DataW H), ds.length = fn.params.size -> s.fn H ds = { results := [.lit (.bool true)], args := ds })
  (hres : fn.resultTypes = #[tb]) (htb : C.prog.underlying tb = some .bool)
  (hfun : ∀ us : List U, zsq C.prog fn.params.toList us -> Fun C.prog f (us.map .u) (· = .u (.bool true))) (hglob : ∀ W : World, laidMetH C.prog laid W -> GlobIn (zj7 W)) :
  ReturnsInHanded {} C os f .any (fun w args => (s.pre enc C.prog fn conds apart w args /\ laidMetH C.prog laid w) /\ sizedMet enc C.prog fn (OpenSpec.ofChange s) apart w args) (s.post enc C.prog fn apart fresh handsOn again) := by
 refine returnsInHanded_of_change_and (X := fun w _ => laidMetH C.prog laid w) (fun _ _ _ hh h => h.of_heap hh) own started noInit hfn witness ?_;intro W base args ds gs before hval hW _ _ hL _;have hpar' : ∀ t ∈ fn.params.toList, C.prog.readableRec t = true /\ t < C.prog.types.size := by
  intro t ht;have := List.all_eq_true.1 hpar t ht;simpa using this
 have hW' := hW;obtain ⟨p, q, hA, hV, rfl, hfz, hnd⟩ := hW;rw [hvars] at hV;obtain ⟨rfl, rfl⟩ := trodVars_none hV;have hlt : ∀ x ∈ p, x.block < W.heap.size := fun x hx => hW'.lt x (by simp [hx]);obtain ⟨us, h1, h2, _⟩ := zng hseq hA (fun t ht => (hpar' t ht).2) (fun j t v ht hv => hval j t v (by simpa using ht) (by simpa using hv));refine (zlq (hfun us h1) (hglob W hL) h2).mono ?_;rintro e W' ⟨rfl, hb⟩;have hdl : ds.length = fn.params.size := by
  have : ∀ {ts : List TypeId} {vs : List Value} {ds : List (DataW H)} {p : List MemPlace}, DataW.TrodAll enc C.prog W 0 (fun _ => true) true ts vs ds p -> ds.length = ts.length := by
   intro ts
   induction ts with
   | nil => intro vs ds p h; cases vs <;> cases ds <;> simp_all [DataW.TrodAll]
   | cons t ts ih =>
    intro vs ds p h;cases vs <;> cases ds <;> simp only [DataW.TrodAll] at h;obtain ⟨p, q, _, h2, _⟩ := h;simp [ih h2]
  simpa using this hA
 have hs := hspec ds hdl;refine ⟨_, rfl, znK (pa := p) (pv := []) hW' (fun b sp hd => ?_) (fun sp hsp => ?_) (fun sp _ => ?_) rfl hb (fun j t r ht hr => ?_)⟩
 ·rw [List.append_nil, hs, hres];exact trodAll_mk1 ⟨1, by simp [DataW.trod, Value.cells, htb]⟩
 ·rw [List.append_nil, hs];exact zf1 hl hb hpar' hA hlt fun x hx => hsp x (by simp [hx])
 ·rw [List.append_nil, hs, hvars]
  try rfl
 ·rw [hres] at ht hr;cases j with
  | zero =>
   simp at ht;subst ht;simp [Value.resultList] at hr;subst hr;simp [Value.okWide, htb, Cell.okWide, Cell.ok]
  | succ j => simp at ht
theorem zjX {P : Program} {w : World} {n : String} {g : Nat} {t e : TypeId} {cs : Array Value} {L : List (List UInt8)} {fuel : Nat} {H : Type} {enc : TypeId × Value -> H} {base : Nat} {spare : Nat -> Bool} {held : Bool} {q : List MemPlace}
  (hg : P.globalNamed n = some g) (hv : w.var? P n = some cs) (ht : P.underlying t = some (.array L.length e)) (he : P.underlying e = some .string) (hc : P.cellsOf e = 1)
  (hd : DataW.trod enc P w base spare held fuel t cs.toList = some (.agg (L.map fun b => .lit (.string b)), q)) : ∀ (j : Nat) (b : List UInt8), L[j]? = some b -> w.cell? ⟨g, j, none⟩ = some (.string ⟨b.toArray⟩) := by
 intro j b hj;obtain ⟨xs, m1, rfl, hx1, hlen, hn3, hel⟩ := DataW.trod_array ht hd;have hjl := (List.getElem?_eq_some_iff.1 hj).1;have h := hel j hjl;rw [hc, Nat.mul_one] at h;simp only [Prod.mk.injEq, DataW.agg.injEq] at hx1;obtain ⟨x, hx⟩ : ∃ x, xs[j]? = some x := ⟨_, List.getElem?_eq_getElem (by omega)⟩;rw [hx] at h;obtain ⟨s, h1, h2, _⟩ := DataW.trod_string he h;have h3 : (L.map fun b => (DataW.lit (.string b) : DataW H))[j]? = (xs.map (·.1))[j]? := by rw [hx1.1]
 rw [List.getElem?_map, List.getElem?_map, hj, hx, h2] at h3;simp only [Option.map_some, Option.some.injEq, DataW.lit.injEq, Lit.string.injEq] at h3;have h4 : (cs.toList.drop j)[0]? = some (.string s) := by
  have : ((cs.toList.drop j).take 1)[0]? = some (.string s) := by rw [h1]; rfl
  simpa [List.getElem?_take] using this
 rw [List.getElem?_drop, Nat.add_zero] at h4;rw [World.var?_cell hg hv j];rw [Array.getElem?_toList] at h4;rw [h4, h3]
end Go.VL
namespace Go.Proofs.YtkdhmbhbbciedaaGreatDoor
open Go Go.VL
@[simp] theorem un1 : (Tryz.prog.underlying 1).isSome = true := by kernel_rfl
@[simp] theorem na1 : zbd Tryz.prog 1 = true := by kernel_rfl
@[simp] theorem st1 : zbT Tryz.prog 1 = false := by kernel_rfl
@[simp] theorem sl1 : zdP Tryz.prog 1 = false := by kernel_rfl
@[simp] theorem un2 : (Tryz.prog.underlying 2).isSome = true := by kernel_rfl
@[simp] theorem na2 : zbd Tryz.prog 2 = true := by kernel_rfl
@[simp] theorem st2 : zbT Tryz.prog 2 = false := by kernel_rfl
@[simp] theorem sl2 : zdP Tryz.prog 2 = false := by kernel_rfl
@[simp] theorem ld3 : zgZ Tryz.prog 3 = some none := by kernel_rfl
@[simp] theorem ts3 : tsz Tryz.prog 3 = some 1 := by kernel_rfl
@[simp] theorem un3 : (Tryz.prog.underlying 3).isSome = true := by kernel_rfl
@[simp] theorem na3 : zbd Tryz.prog 3 = true := by kernel_rfl
@[simp] theorem st3 : zbT Tryz.prog 3 = false := by kernel_rfl
@[simp] theorem io3 : ziS Tryz.prog 3 = some .i64 := by kernel_rfl
@[simp] theorem zc3 : ze6 Tryz.prog 3 = some [.int .i64 0] := by kernel_rfl
@[simp] theorem sl3 : zdP Tryz.prog 3 = false := by kernel_rfl
@[simp] theorem ld4 : zgZ Tryz.prog 4 = some none := by kernel_rfl
@[simp] theorem ts4 : tsz Tryz.prog 4 = some 1 := by kernel_rfl
@[simp] theorem un4 : (Tryz.prog.underlying 4).isSome = true := by kernel_rfl
@[simp] theorem na4 : zbd Tryz.prog 4 = true := by kernel_rfl
@[simp] theorem st4 : zbT Tryz.prog 4 = false := by kernel_rfl
@[simp] theorem sl4 : zdP Tryz.prog 4 = false := by kernel_rfl
@[simp] theorem un5 : (Tryz.prog.underlying 5).isSome = true := by kernel_rfl
@[simp] theorem na5 : zbd Tryz.prog 5 = true := by kernel_rfl
@[simp] theorem st5 : zbT Tryz.prog 5 = false := by kernel_rfl
@[simp] theorem io5 : ziS Tryz.prog 5 = some .u8 := by kernel_rfl
@[simp] theorem sl5 : zdP Tryz.prog 5 = false := by kernel_rfl
@[simp] theorem un8 : (Tryz.prog.underlying 8).isSome = true := by kernel_rfl
@[simp] theorem na8 : zbd Tryz.prog 8 = true := by kernel_rfl
@[simp] theorem st8 : zbT Tryz.prog 8 = false := by kernel_rfl
@[simp] theorem sl8 : zdP Tryz.prog 8 = false := by kernel_rfl
@[simp] theorem ld9 : zgZ Tryz.prog 9 = some none := by kernel_rfl
@[simp] theorem ts9 : tsz Tryz.prog 9 = some 1 := by kernel_rfl
@[simp] theorem un9 : (Tryz.prog.underlying 9).isSome = true := by kernel_rfl
@[simp] theorem na9 : zbd Tryz.prog 9 = true := by kernel_rfl
@[simp] theorem sf9 : stT Tryz.prog 9 = none := by kernel_rfl
@[simp] theorem st9 : zbT Tryz.prog 9 = true := by kernel_rfl
@[simp] theorem sl9 : zdP Tryz.prog 9 = false := by kernel_rfl
@[simp] theorem zzb : (Tryz.prog.underlying 15).isSome = true := by kernel_rfl
@[simp] theorem zAy : zbd Tryz.prog 15 = true := by kernel_rfl
@[simp] theorem zzH : zbT Tryz.prog 15 = false := by kernel_rfl
@[simp] theorem zz6 : zdP Tryz.prog 15 = false := by kernel_rfl
@[simp] theorem zza : (Tryz.prog.underlying 20).isSome = true := by kernel_rfl
@[simp] theorem zAx : zbd Tryz.prog 20 = true := by kernel_rfl
@[simp] theorem zzG : zbT Tryz.prog 20 = false := by kernel_rfl
@[simp] theorem zBV : zl6 Tryz.prog 20 = true := by kernel_rfl
@[simp] theorem zz5 : zdP Tryz.prog 20 = false := by kernel_rfl
@[simp] theorem zy9 : (Tryz.prog.underlying 21).isSome = true := by kernel_rfl
@[simp] theorem zAw : zbd Tryz.prog 21 = true := by kernel_rfl
@[simp] theorem zzF : zbT Tryz.prog 21 = false := by kernel_rfl
@[simp] theorem zz4 : zdP Tryz.prog 21 = false := by kernel_rfl
@[simp] theorem zAH : zgZ Tryz.prog 22 = some none := by kernel_rfl
@[simp] theorem zy8 : (Tryz.prog.underlying 22).isSome = true := by kernel_rfl
@[simp] theorem zAv : zbd Tryz.prog 22 = true := by kernel_rfl
@[simp] theorem zz8 : stT Tryz.prog 22 = none := by kernel_rfl
@[simp] theorem zzE : zbT Tryz.prog 22 = false := by kernel_rfl
@[simp] theorem zz3 : zdP Tryz.prog 22 = true := by kernel_rfl
@[simp] theorem zxu : zj6 Tryz.prog 22 = some (39, 6) := by kernel_rfl
@[simp] theorem zAR : ze2 Tryz.prog 22 = some (39, 6, 80, [.string ⟨#[]⟩, .int .i64 0, .int .i64 0, .int .i64 0, .string ⟨#[]⟩, .slice none 0 0]) := by kernel_rfl
@[simp] theorem zAG : zgZ Tryz.prog 23 = some none := by kernel_rfl
@[simp] theorem zy7 : (Tryz.prog.underlying 23).isSome = true := by kernel_rfl
@[simp] theorem zAu : zbd Tryz.prog 23 = true := by kernel_rfl
@[simp] theorem zzD : zbT Tryz.prog 23 = false := by kernel_rfl
@[simp] theorem zz2 : zdP Tryz.prog 23 = true := by kernel_rfl
@[simp] theorem zxt : zj6 Tryz.prog 23 = some (25, 5) := by kernel_rfl
@[simp] theorem zAQ : ze2 Tryz.prog 23 = some (25, 5, 64, [.int .i64 0, .int .i64 0, .int .i64 0, .string ⟨#[]⟩, .slice none 0 0]) := by kernel_rfl
@[simp] theorem zAF : zgZ Tryz.prog 25 = some (some 5) := by kernel_rfl
@[simp] theorem zzi : tsz Tryz.prog 25 = some 5 := by kernel_rfl
@[simp] theorem zy6 : (Tryz.prog.underlying 25).isSome = true := by kernel_rfl
@[simp] theorem zAt : zbd Tryz.prog 25 = true := by kernel_rfl
@[simp] theorem zvF : stT Tryz.prog 25 = some [3, 3, 3, 9, 23] := by kernel_rfl
@[simp] theorem zzC : zbT Tryz.prog 25 = false := by kernel_rfl
@[simp] theorem zyM : ze6 Tryz.prog 25 = some [.int .i64 0, .int .i64 0, .int .i64 0, .string ⟨#[]⟩, .slice none 0 0] := by kernel_rfl
@[simp] theorem zz1 : zdP Tryz.prog 25 = false := by kernel_rfl
@[simp] theorem zvV : zdr Tryz.prog 25 0 = some (0, 1, none) := by kernel_rfl
@[simp] theorem zvU : zdr Tryz.prog 25 1 = some (1, 1, none) := by kernel_rfl
@[simp] theorem zvT : zdr Tryz.prog 25 2 = some (2, 1, none) := by kernel_rfl
@[simp] theorem zvS : zdr Tryz.prog 25 3 = some (3, 1, none) := by kernel_rfl
@[simp] theorem zvR : zdr Tryz.prog 25 4 = some (4, 1, none) := by kernel_rfl
@[simp] theorem zyG : zp Tryz.prog 25 = some ([.int .i64 0, .int .i64 0, .int .i64 0, .string ⟨#[]⟩, .slice none 0 0], [(0, 1), (1, 1), (2, 1), (3, 1), (4, 1)]) := by kernel_rfl
@[simp] theorem zAE : zgZ Tryz.prog 26 = some none := by kernel_rfl
@[simp] theorem zzh : tsz Tryz.prog 26 = some 1 := by kernel_rfl
@[simp] theorem zy5 : (Tryz.prog.underlying 26).isSome = true := by kernel_rfl
@[simp] theorem zAs : zbd Tryz.prog 26 = true := by kernel_rfl
@[simp] theorem zz7 : stT Tryz.prog 26 = none := by kernel_rfl
@[simp] theorem zzB : zbT Tryz.prog 26 = false := by kernel_rfl
@[simp] theorem zyL : ze6 Tryz.prog 26 = some [.slice none 0 0] := by kernel_rfl
@[simp] theorem zz0 : zdP Tryz.prog 26 = true := by kernel_rfl
@[simp] theorem zxs : zj6 Tryz.prog 26 = some (44, 3) := by kernel_rfl
@[simp] theorem zAP : ze2 Tryz.prog 26 = some (44, 3, 32, [.int .i64 0, .int .i64 0, .string ⟨#[]⟩]) := by kernel_rfl
@[simp] theorem zAD : zgZ Tryz.prog 30 = some none := by kernel_rfl
@[simp] theorem zzg : tsz Tryz.prog 30 = some 1 := by kernel_rfl
@[simp] theorem zy4 : (Tryz.prog.underlying 30).isSome = true := by kernel_rfl
@[simp] theorem zAr : zbd Tryz.prog 30 = true := by kernel_rfl
@[simp] theorem zzA : zbT Tryz.prog 30 = false := by kernel_rfl
@[simp] theorem zyK : ze6 Tryz.prog 30 = some [.int .i64 0] := by kernel_rfl
@[simp] theorem zzZ : zdP Tryz.prog 30 = false := by kernel_rfl
@[simp] theorem zy3 : (Tryz.prog.underlying 35).isSome = true := by kernel_rfl
@[simp] theorem zAq : zbd Tryz.prog 35 = true := by kernel_rfl
@[simp] theorem zzz : zbT Tryz.prog 35 = false := by kernel_rfl
@[simp] theorem zzY : zdP Tryz.prog 35 = false := by kernel_rfl
@[simp] theorem zy2 : (Tryz.prog.underlying 37).isSome = true := by kernel_rfl
@[simp] theorem zAp : zbd Tryz.prog 37 = true := by kernel_rfl
@[simp] theorem zzy : zbT Tryz.prog 37 = false := by kernel_rfl
@[simp] theorem zzX : zdP Tryz.prog 37 = false := by kernel_rfl
@[simp] theorem zAC : zgZ Tryz.prog 39 = some (some 6) := by kernel_rfl
@[simp] theorem zzf : tsz Tryz.prog 39 = some 6 := by kernel_rfl
@[simp] theorem zy1 : (Tryz.prog.underlying 39).isSome = true := by kernel_rfl
@[simp] theorem zAo : zbd Tryz.prog 39 = true := by kernel_rfl
@[simp] theorem zw4 : stT Tryz.prog 39 = some [9, 25] := by kernel_rfl
@[simp] theorem zzx : zbT Tryz.prog 39 = false := by kernel_rfl
@[simp] theorem zyJ : ze6 Tryz.prog 39 = some [.string ⟨#[]⟩, .int .i64 0, .int .i64 0, .int .i64 0, .string ⟨#[]⟩, .slice none 0 0] := by kernel_rfl
@[simp] theorem zzW : zdP Tryz.prog 39 = false := by kernel_rfl
@[simp] theorem zvQ : zdr Tryz.prog 39 0 = some (0, 1, none) := by kernel_rfl
@[simp] theorem zvP : zdr Tryz.prog 39 1 = some (1, 5, some 5) := by kernel_rfl
@[simp] theorem zyF : zp Tryz.prog 39 = some ([.string ⟨#[]⟩, .int .i64 0, .int .i64 0, .int .i64 0, .string ⟨#[]⟩, .slice none 0 0], [(0, 1), (1, 5)]) := by kernel_rfl
@[simp] theorem zy0 : (Tryz.prog.underlying 40).isSome = true := by kernel_rfl
@[simp] theorem zAn : zbd Tryz.prog 40 = true := by kernel_rfl
@[simp] theorem zzw : zbT Tryz.prog 40 = false := by kernel_rfl
@[simp] theorem zzV : zdP Tryz.prog 40 = true := by kernel_rfl
@[simp] theorem zAK : zj6 Tryz.prog 40 = some (3, 1) := by kernel_rfl
@[simp] theorem zAO : ze2 Tryz.prog 40 = some (3, 1, 8, [.int .i64 0]) := by kernel_rfl
@[simp] theorem zAB : zgZ Tryz.prog 44 = some (some 3) := by kernel_rfl
@[simp] theorem zze : tsz Tryz.prog 44 = some 3 := by kernel_rfl
@[simp] theorem zyZ : (Tryz.prog.underlying 44).isSome = true := by kernel_rfl
@[simp] theorem zAm : zbd Tryz.prog 44 = true := by kernel_rfl
@[simp] theorem zw3 : stT Tryz.prog 44 = some [3, 3, 9] := by kernel_rfl
@[simp] theorem zzv : zbT Tryz.prog 44 = false := by kernel_rfl
@[simp] theorem zyI : ze6 Tryz.prog 44 = some [.int .i64 0, .int .i64 0, .string ⟨#[]⟩] := by kernel_rfl
@[simp] theorem zzU : zdP Tryz.prog 44 = false := by kernel_rfl
@[simp] theorem zz9 : zu1 Tryz.prog 44 = some [.int, .int, .str] := by kernel_rfl
@[simp] theorem zvO : zdr Tryz.prog 44 0 = some (0, 1, none) := by kernel_rfl
@[simp] theorem zvN : zdr Tryz.prog 44 1 = some (1, 1, none) := by kernel_rfl
@[simp] theorem zvM : zdr Tryz.prog 44 2 = some (2, 1, none) := by kernel_rfl
@[simp] theorem zyE : zp Tryz.prog 44 = some ([.int .i64 0, .int .i64 0, .string ⟨#[]⟩], [(0, 1), (1, 1), (2, 1)]) := by kernel_rfl
@[simp] theorem zyY : (Tryz.prog.underlying 58).isSome = true := by kernel_rfl
@[simp] theorem zAl : zbd Tryz.prog 58 = true := by kernel_rfl
@[simp] theorem zzu : zbT Tryz.prog 58 = false := by kernel_rfl
@[simp] theorem zzT : zdP Tryz.prog 58 = true := by kernel_rfl
@[simp] theorem zAJ : zj6 Tryz.prog 58 = some (9, 1) := by kernel_rfl
@[simp] theorem zAN : ze2 Tryz.prog 58 = some (9, 1, 16, [.string ⟨#[]⟩]) := by kernel_rfl
@[simp] theorem zyX : (Tryz.prog.underlying 59).isSome = true := by kernel_rfl
@[simp] theorem zAk : zbd Tryz.prog 59 = true := by kernel_rfl
@[simp] theorem zzt : zbT Tryz.prog 59 = false := by kernel_rfl
@[simp] theorem zzS : zdP Tryz.prog 59 = false := by kernel_rfl
@[simp] theorem zyW : (Tryz.prog.underlying 61).isSome = true := by kernel_rfl
@[simp] theorem zAj : zbd Tryz.prog 61 = true := by kernel_rfl
@[simp] theorem zzs : zbT Tryz.prog 61 = false := by kernel_rfl
@[simp] theorem zzR : zdP Tryz.prog 61 = false := by kernel_rfl
@[simp] theorem zAA : zgZ Tryz.prog 62 = some none := by kernel_rfl
@[simp] theorem zzd : tsz Tryz.prog 62 = some 1 := by kernel_rfl
@[simp] theorem zyV : (Tryz.prog.underlying 62).isSome = true := by kernel_rfl
@[simp] theorem zAi : zbd Tryz.prog 62 = true := by kernel_rfl
@[simp] theorem zzr : zbT Tryz.prog 62 = false := by kernel_rfl
@[simp] theorem zzQ : zdP Tryz.prog 62 = true := by kernel_rfl
@[simp] theorem zAI : zj6 Tryz.prog 62 = some (4, 1) := by kernel_rfl
@[simp] theorem zAM : ze2 Tryz.prog 62 = some (4, 1, 1, [.bool false]) := by kernel_rfl
@[simp] theorem zyU : (Tryz.prog.underlying 64).isSome = true := by kernel_rfl
@[simp] theorem zAh : zbd Tryz.prog 64 = true := by kernel_rfl
@[simp] theorem zzq : zbT Tryz.prog 64 = false := by kernel_rfl
@[simp] theorem zzP : zdP Tryz.prog 64 = false := by kernel_rfl
@[simp] theorem zvL : zdr Tryz.prog 64 0 = some (0, 1, none) := by kernel_rfl
@[simp] theorem zvK : zdr Tryz.prog 64 1 = some (1, 1, none) := by kernel_rfl
@[simp] theorem zvJ : zdr Tryz.prog 64 2 = some (2, 1, none) := by kernel_rfl
@[simp] theorem zyD : zp Tryz.prog 64 = some ([.slice none 0 0, .slice none 0 0, .slice none 0 0], [(0, 1), (1, 1), (2, 1)]) := by kernel_rfl
@[simp] theorem zyT : (Tryz.prog.underlying 69).isSome = true := by kernel_rfl
@[simp] theorem zAg : zbd Tryz.prog 69 = true := by kernel_rfl
@[simp] theorem zzp : zbT Tryz.prog 69 = false := by kernel_rfl
@[simp] theorem zzO : zdP Tryz.prog 69 = false := by kernel_rfl
@[simp] theorem zyS : (Tryz.prog.underlying 70).isSome = true := by kernel_rfl
@[simp] theorem zAf : zbd Tryz.prog 70 = true := by kernel_rfl
@[simp] theorem zzo : zbT Tryz.prog 70 = false := by kernel_rfl
@[simp] theorem zzN : zdP Tryz.prog 70 = false := by kernel_rfl
@[simp] theorem zyR : (Tryz.prog.underlying 76).isSome = true := by kernel_rfl
@[simp] theorem zAe : zbd Tryz.prog 76 = false := by kernel_rfl
@[simp] theorem zzn : zbT Tryz.prog 76 = false := by kernel_rfl
@[simp] theorem zBU : zsH Tryz.prog 76 = some 15 := by kernel_rfl
@[simp] theorem zzM : zdP Tryz.prog 76 = false := by kernel_rfl
@[simp] theorem zyQ : (Tryz.prog.underlying 78).isSome = true := by kernel_rfl
@[simp] theorem zAd : zbd Tryz.prog 78 = true := by kernel_rfl
@[simp] theorem zzm : zbT Tryz.prog 78 = false := by kernel_rfl
@[simp] theorem zzL : zdP Tryz.prog 78 = false := by kernel_rfl
@[simp] theorem zyP : (Tryz.prog.underlying 85).isSome = true := by kernel_rfl
@[simp] theorem zAc : zbd Tryz.prog 85 = true := by kernel_rfl
@[simp] theorem zzl : zbT Tryz.prog 85 = false := by kernel_rfl
@[simp] theorem zzK : zdP Tryz.prog 85 = false := by kernel_rfl
@[simp] theorem zAz : zgZ Tryz.prog 86 = some none := by kernel_rfl
@[simp] theorem zzc : tsz Tryz.prog 86 = some 1 := by kernel_rfl
@[simp] theorem zyO : (Tryz.prog.underlying 86).isSome = true := by kernel_rfl
@[simp] theorem zAb : zbd Tryz.prog 86 = true := by kernel_rfl
@[simp] theorem zzk : zbT Tryz.prog 86 = false := by kernel_rfl
@[simp] theorem zzJ : zdP Tryz.prog 86 = true := by kernel_rfl
@[simp] theorem zAL : ze2 Tryz.prog 86 = some (5, 1, 1, [.int .u8 0]) := by kernel_rfl
@[simp] theorem zyN : (Tryz.prog.underlying 88).isSome = true := by kernel_rfl
@[simp] theorem zAa : zbd Tryz.prog 88 = true := by kernel_rfl
@[simp] theorem zzj : zbT Tryz.prog 88 = false := by kernel_rfl
@[simp] theorem zyH : ze6 Tryz.prog 88 = some [.pointer none, .slice none 0 0] := by kernel_rfl
@[simp] theorem zzI : zdP Tryz.prog 88 = false := by kernel_rfl
@[simp] theorem zvI : zdr Tryz.prog 88 1 = some (1, 1, none) := by kernel_rfl
@[simp] theorem zwt : (Tryz.prog.underlying 115).isSome = true := by kernel_rfl
@[simp] theorem zxm : zbd Tryz.prog 115 = true := by kernel_rfl
@[simp] theorem zwM : zbT Tryz.prog 115 = false := by kernel_rfl
@[simp] theorem zw2 : zdP Tryz.prog 115 = false := by kernel_rfl
@[simp] theorem zws : (Tryz.prog.underlying 118).isSome = true := by kernel_rfl
@[simp] theorem zxl : zbd Tryz.prog 118 = true := by kernel_rfl
@[simp] theorem zwL : zbT Tryz.prog 118 = false := by kernel_rfl
@[simp] theorem zw1 : zdP Tryz.prog 118 = false := by kernel_rfl
@[simp] theorem zxr : zgZ Tryz.prog 139 = some none := by kernel_rfl
@[simp] theorem zwr : (Tryz.prog.underlying 139).isSome = true := by kernel_rfl
@[simp] theorem zxk : zbd Tryz.prog 139 = true := by kernel_rfl
@[simp] theorem zwK : zbT Tryz.prog 139 = false := by kernel_rfl
@[simp] theorem zw0 : zdP Tryz.prog 139 = false := by kernel_rfl
@[simp] theorem zwq : (Tryz.prog.underlying 143).isSome = true := by kernel_rfl
@[simp] theorem zxj : zbd Tryz.prog 143 = true := by kernel_rfl
@[simp] theorem zwJ : zbT Tryz.prog 143 = false := by kernel_rfl
@[simp] theorem zwZ : zdP Tryz.prog 143 = false := by kernel_rfl
@[simp] theorem zwp : (Tryz.prog.underlying 144).isSome = true := by kernel_rfl
@[simp] theorem zxi : zbd Tryz.prog 144 = true := by kernel_rfl
@[simp] theorem zwI : zbT Tryz.prog 144 = false := by kernel_rfl
@[simp] theorem zwY : zdP Tryz.prog 144 = false := by kernel_rfl
@[simp] theorem zxq : zgZ Tryz.prog 148 = some (some 4) := by kernel_rfl
@[simp] theorem zww : tsz Tryz.prog 148 = some 4 := by kernel_rfl
@[simp] theorem zwo : (Tryz.prog.underlying 148).isSome = true := by kernel_rfl
@[simp] theorem zxh : zbd Tryz.prog 148 = true := by kernel_rfl
@[simp] theorem zwH : zbT Tryz.prog 148 = false := by kernel_rfl
@[simp] theorem zwc : ze6 Tryz.prog 148 = some [.int .i64 0, .string ⟨#[]⟩, .int .i64 0, .int .i64 0] := by kernel_rfl
@[simp] theorem zwX : zdP Tryz.prog 148 = false := by kernel_rfl
@[simp] theorem zvn : zdr Tryz.prog 148 0 = some (0, 1, none) := by kernel_rfl
@[simp] theorem zvm : zdr Tryz.prog 148 1 = some (1, 1, none) := by kernel_rfl
@[simp] theorem zvl : zdr Tryz.prog 148 2 = some (2, 1, none) := by kernel_rfl
@[simp] theorem zvk : zdr Tryz.prog 148 3 = some (3, 1, none) := by kernel_rfl
@[simp] theorem zv9 : zp Tryz.prog 148 = some ([.int .i64 0, .string ⟨#[]⟩, .int .i64 0, .int .i64 0], [(0, 1), (1, 1), (2, 1), (3, 1)]) := by kernel_rfl
@[simp] theorem zwn : (Tryz.prog.underlying 163).isSome = true := by kernel_rfl
@[simp] theorem zxg : zbd Tryz.prog 163 = true := by kernel_rfl
@[simp] theorem zwG : zbT Tryz.prog 163 = false := by kernel_rfl
@[simp] theorem zwW : zdP Tryz.prog 163 = false := by kernel_rfl
@[simp] theorem zvj : zdr Tryz.prog 163 0 = some (0, 1, none) := by kernel_rfl
@[simp] theorem zvi : zdr Tryz.prog 163 1 = some (1, 1, none) := by kernel_rfl
@[simp] theorem zv8 : zp Tryz.prog 163 = some ([.string ⟨#[]⟩, .bool false], [(0, 1), (1, 1)]) := by kernel_rfl
@[simp] theorem zwm : (Tryz.prog.underlying 166).isSome = true := by kernel_rfl
@[simp] theorem zxf : zbd Tryz.prog 166 = true := by kernel_rfl
@[simp] theorem zwF : zbT Tryz.prog 166 = false := by kernel_rfl
@[simp] theorem zwV : zdP Tryz.prog 166 = false := by kernel_rfl
@[simp] theorem zxp : zgZ Tryz.prog 173 = some none := by kernel_rfl
@[simp] theorem zwl : (Tryz.prog.underlying 173).isSome = true := by kernel_rfl
@[simp] theorem zxe : zbd Tryz.prog 173 = true := by kernel_rfl
@[simp] theorem zwE : zbT Tryz.prog 173 = false := by kernel_rfl
@[simp] theorem zwU : zdP Tryz.prog 173 = true := by kernel_rfl
@[simp] theorem zxw : zj6 Tryz.prog 173 = some (148, 4) := by kernel_rfl
@[simp] theorem zxz : ze2 Tryz.prog 173 = some (148, 4, 40, [.int .i64 0, .string ⟨#[]⟩, .int .i64 0, .int .i64 0]) := by kernel_rfl
@[simp] theorem zwk : (Tryz.prog.underlying 177).isSome = true := by kernel_rfl
@[simp] theorem zxd : zbd Tryz.prog 177 = true := by kernel_rfl
@[simp] theorem zwD : zbT Tryz.prog 177 = false := by kernel_rfl
@[simp] theorem zwT : zdP Tryz.prog 177 = false := by kernel_rfl
@[simp] theorem zvh : zdr Tryz.prog 177 0 = some (0, 1, none) := by kernel_rfl
@[simp] theorem zvg : zdr Tryz.prog 177 1 = some (1, 1, none) := by kernel_rfl
@[simp] theorem zv7 : zp Tryz.prog 177 = some ([.slice none 0 0, .int .i64 0], [(0, 1), (1, 1)]) := by kernel_rfl
@[simp] theorem zwv : tsz Tryz.prog 179 = some 2 := by kernel_rfl
@[simp] theorem zwj : (Tryz.prog.underlying 179).isSome = true := by kernel_rfl
@[simp] theorem zxc : zbd Tryz.prog 179 = true := by kernel_rfl
@[simp] theorem zwC : zbT Tryz.prog 179 = false := by kernel_rfl
@[simp] theorem zw6 : znT Tryz.prog 179 = true := by kernel_rfl
@[simp] theorem zwb : ze6 Tryz.prog 179 = some [.int .i64 0, .int .i64 0] := by kernel_rfl
@[simp] theorem zwS : zdP Tryz.prog 179 = false := by kernel_rfl
@[simp] theorem zvf : zdr Tryz.prog 179 0 = some (0, 1, none) := by kernel_rfl
@[simp] theorem zve : zdr Tryz.prog 179 1 = some (1, 1, none) := by kernel_rfl
@[simp] theorem zv6 : zp Tryz.prog 179 = some ([.int .i64 0, .int .i64 0], [(0, 1), (1, 1)]) := by kernel_rfl
@[simp] theorem zwi : (Tryz.prog.underlying 184).isSome = true := by kernel_rfl
@[simp] theorem zxb : zbd Tryz.prog 184 = true := by kernel_rfl
@[simp] theorem zwB : zbT Tryz.prog 184 = false := by kernel_rfl
@[simp] theorem zwR : zdP Tryz.prog 184 = true := by kernel_rfl
@[simp] theorem zxv : zj6 Tryz.prog 184 = some (186, 3) := by kernel_rfl
@[simp] theorem zxy : ze2 Tryz.prog 184 = some (186, 3, 32, [.string ⟨#[]⟩, .int .i64 0, .int .i64 0]) := by kernel_rfl
@[simp] theorem zxo : zgZ Tryz.prog 186 = some (some 3) := by kernel_rfl
@[simp] theorem zwu : tsz Tryz.prog 186 = some 3 := by kernel_rfl
@[simp] theorem zwh : (Tryz.prog.underlying 186).isSome = true := by kernel_rfl
@[simp] theorem zxa : zbd Tryz.prog 186 = true := by kernel_rfl
@[simp] theorem zwA : zbT Tryz.prog 186 = false := by kernel_rfl
@[simp] theorem zwa : ze6 Tryz.prog 186 = some [.string ⟨#[]⟩, .int .i64 0, .int .i64 0] := by kernel_rfl
@[simp] theorem zwQ : zdP Tryz.prog 186 = false := by kernel_rfl
@[simp] theorem zvd : zdr Tryz.prog 186 0 = some (0, 1, none) := by kernel_rfl
@[simp] theorem zvc : zdr Tryz.prog 186 1 = some (1, 1, none) := by kernel_rfl
@[simp] theorem zvb : zdr Tryz.prog 186 2 = some (2, 1, none) := by kernel_rfl
@[simp] theorem zv5 : zp Tryz.prog 186 = some ([.string ⟨#[]⟩, .int .i64 0, .int .i64 0], [(0, 1), (1, 1), (2, 1)]) := by kernel_rfl
@[simp] theorem zwg : (Tryz.prog.underlying 188).isSome = true := by kernel_rfl
@[simp] theorem zw9 : zbd Tryz.prog 188 = true := by kernel_rfl
@[simp] theorem zwz : zbT Tryz.prog 188 = false := by kernel_rfl
@[simp] theorem zwP : zdP Tryz.prog 188 = false := by kernel_rfl
@[simp] theorem zwf : (Tryz.prog.underlying 199).isSome = true := by kernel_rfl
@[simp] theorem zw8 : zbd Tryz.prog 199 = true := by kernel_rfl
@[simp] theorem zwy : zbT Tryz.prog 199 = false := by kernel_rfl
@[simp] theorem zwO : zdP Tryz.prog 199 = false := by kernel_rfl
@[simp] theorem zxn : zgZ Tryz.prog 226 = some (some 11) := by kernel_rfl
@[simp] theorem zwe : (Tryz.prog.underlying 226).isSome = true := by kernel_rfl
@[simp] theorem zw7 : zbd Tryz.prog 226 = false := by kernel_rfl
@[simp] theorem zwx : zbT Tryz.prog 226 = false := by kernel_rfl
@[simp] theorem zyu : zsH Tryz.prog 226 = some 11 := by kernel_rfl
@[simp] theorem zwN : zdP Tryz.prog 226 = false := by kernel_rfl
@[simp] theorem ca3 : zae Tryz.prog 3 = true := by kernel_rfl
@[simp] theorem ca9 : zae Tryz.prog 9 = true := by kernel_rfl
@[simp] theorem zBT : zae Tryz.prog 10 = true := by kernel_rfl
@[simp] theorem zBS : zae Tryz.prog 11 = true := by kernel_rfl
@[simp] theorem zBR : zae Tryz.prog 12 = true := by kernel_rfl
@[simp] theorem zBQ : zae Tryz.prog 13 = true := by kernel_rfl
@[simp] theorem zBP : zae Tryz.prog 14 = true := by kernel_rfl
@[simp] theorem zBO : zae Tryz.prog 15 = true := by kernel_rfl
@[simp] theorem zBN : zae Tryz.prog 16 = true := by kernel_rfl
@[simp] theorem zBM : zae Tryz.prog 17 = true := by kernel_rfl
@[simp] theorem zBL : zae Tryz.prog 18 = true := by kernel_rfl
@[simp] theorem zBK : zae Tryz.prog 19 = true := by kernel_rfl
@[simp] theorem zBJ : zae Tryz.prog 20 = true := by kernel_rfl
@[simp] theorem zBI : zae Tryz.prog 21 = true := by kernel_rfl
@[simp] theorem zBH : zae Tryz.prog 22 = true := by kernel_rfl
@[simp] theorem zBG : zae Tryz.prog 23 = true := by kernel_rfl
@[simp] theorem zBF : zae Tryz.prog 26 = true := by kernel_rfl
@[simp] theorem zBE : zae Tryz.prog 29 = true := by kernel_rfl
@[simp] theorem zBD : zae Tryz.prog 32 = true := by kernel_rfl
@[simp] theorem zBC : zae Tryz.prog 33 = true := by kernel_rfl
@[simp] theorem zBB : zae Tryz.prog 34 = true := by kernel_rfl
@[simp] theorem zBA : zae Tryz.prog 35 = true := by kernel_rfl
@[simp] theorem zBz : zae Tryz.prog 36 = true := by kernel_rfl
@[simp] theorem zBy : zae Tryz.prog 37 = true := by kernel_rfl
@[simp] theorem zBx : zae Tryz.prog 38 = true := by kernel_rfl
@[simp] theorem zBw : zae Tryz.prog 39 = true := by kernel_rfl
@[simp] theorem zBv : zae Tryz.prog 40 = true := by kernel_rfl
@[simp] theorem zBu : zae Tryz.prog 41 = true := by kernel_rfl
@[simp] theorem zBt : zae Tryz.prog 42 = true := by kernel_rfl
@[simp] theorem zBs : zae Tryz.prog 43 = true := by kernel_rfl
@[simp] theorem zBr : zae Tryz.prog 44 = true := by kernel_rfl
@[simp] theorem zBq : zae Tryz.prog 46 = true := by kernel_rfl
@[simp] theorem zBp : zae Tryz.prog 47 = true := by kernel_rfl
@[simp] theorem zBo : zae Tryz.prog 48 = true := by kernel_rfl
@[simp] theorem zBn : zae Tryz.prog 50 = true := by kernel_rfl
@[simp] theorem zBm : zae Tryz.prog 52 = true := by kernel_rfl
@[simp] theorem zBl : zae Tryz.prog 53 = true := by kernel_rfl
@[simp] theorem zBk : zae Tryz.prog 54 = true := by kernel_rfl
@[simp] theorem zBj : zae Tryz.prog 55 = true := by kernel_rfl
@[simp] theorem zBi : zae Tryz.prog 56 = true := by kernel_rfl
@[simp] theorem zBh : zae Tryz.prog 57 = true := by kernel_rfl
@[simp] theorem zBg : zae Tryz.prog 58 = true := by kernel_rfl
@[simp] theorem zBf : zae Tryz.prog 62 = true := by kernel_rfl
@[simp] theorem zBe : zae Tryz.prog 64 = true := by kernel_rfl
@[simp] theorem zBd : zae Tryz.prog 65 = true := by kernel_rfl
@[simp] theorem zBc : zae Tryz.prog 66 = true := by kernel_rfl
@[simp] theorem zBb : zae Tryz.prog 67 = true := by kernel_rfl
@[simp] theorem zBa : zae Tryz.prog 68 = true := by kernel_rfl
@[simp] theorem zA9 : zae Tryz.prog 69 = true := by kernel_rfl
@[simp] theorem zA8 : zae Tryz.prog 70 = true := by kernel_rfl
@[simp] theorem zA7 : zae Tryz.prog 71 = true := by kernel_rfl
@[simp] theorem zA6 : zae Tryz.prog 72 = true := by kernel_rfl
@[simp] theorem zA5 : zae Tryz.prog 73 = true := by kernel_rfl
@[simp] theorem zA4 : zae Tryz.prog 74 = true := by kernel_rfl
@[simp] theorem zA3 : zae Tryz.prog 75 = true := by kernel_rfl
@[simp] theorem zA2 : zae Tryz.prog 76 = true := by kernel_rfl
@[simp] theorem zA1 : zae Tryz.prog 77 = true := by kernel_rfl
@[simp] theorem zA0 : zae Tryz.prog 80 = true := by kernel_rfl
@[simp] theorem zAZ : zae Tryz.prog 81 = true := by kernel_rfl
@[simp] theorem zAY : zae Tryz.prog 82 = true := by kernel_rfl
@[simp] theorem zAX : zae Tryz.prog 84 = true := by kernel_rfl
@[simp] theorem zAW : zae Tryz.prog 85 = true := by kernel_rfl
@[simp] theorem zAV : zae Tryz.prog 86 = true := by kernel_rfl
@[simp] theorem zAU : zae Tryz.prog 87 = true := by kernel_rfl
@[simp] theorem zAT : zae Tryz.prog 88 = true := by kernel_rfl
@[simp] theorem zAS : zae Tryz.prog 89 = true := by kernel_rfl
@[simp] theorem zyo : zae Tryz.prog 103 = true := by kernel_rfl
@[simp] theorem zyn : zae Tryz.prog 104 = true := by kernel_rfl
@[simp] theorem zym : zae Tryz.prog 105 = true := by kernel_rfl
@[simp] theorem zyl : zae Tryz.prog 106 = true := by kernel_rfl
@[simp] theorem zyk : zae Tryz.prog 107 = true := by kernel_rfl
@[simp] theorem zyj : zae Tryz.prog 108 = true := by kernel_rfl
@[simp] theorem zyi : zae Tryz.prog 109 = true := by kernel_rfl
@[simp] theorem zyh : zae Tryz.prog 110 = true := by kernel_rfl
@[simp] theorem zyg : zae Tryz.prog 111 = true := by kernel_rfl
@[simp] theorem zyf : zae Tryz.prog 112 = true := by kernel_rfl
@[simp] theorem zye : zae Tryz.prog 113 = true := by kernel_rfl
@[simp] theorem zyd : zae Tryz.prog 114 = true := by kernel_rfl
@[simp] theorem zyc : zae Tryz.prog 115 = true := by kernel_rfl
@[simp] theorem zyb : zae Tryz.prog 117 = true := by kernel_rfl
@[simp] theorem zya : zae Tryz.prog 118 = true := by kernel_rfl
@[simp] theorem zx9 : zae Tryz.prog 119 = true := by kernel_rfl
@[simp] theorem zx8 : zae Tryz.prog 125 = true := by kernel_rfl
@[simp] theorem zx7 : zae Tryz.prog 126 = true := by kernel_rfl
@[simp] theorem zx6 : zae Tryz.prog 127 = true := by kernel_rfl
@[simp] theorem zx5 : zae Tryz.prog 128 = true := by kernel_rfl
@[simp] theorem zx4 : zae Tryz.prog 131 = true := by kernel_rfl
@[simp] theorem zx3 : zae Tryz.prog 132 = true := by kernel_rfl
@[simp] theorem zx2 : zae Tryz.prog 133 = true := by kernel_rfl
@[simp] theorem zx1 : zae Tryz.prog 138 = true := by kernel_rfl
@[simp] theorem zx0 : zae Tryz.prog 139 = true := by kernel_rfl
@[simp] theorem zxZ : zae Tryz.prog 140 = true := by kernel_rfl
@[simp] theorem zxY : zae Tryz.prog 141 = true := by kernel_rfl
@[simp] theorem zxX : zae Tryz.prog 142 = true := by kernel_rfl
@[simp] theorem zxW : zae Tryz.prog 143 = true := by kernel_rfl
@[simp] theorem zxV : zae Tryz.prog 145 = true := by kernel_rfl
@[simp] theorem zxU : zae Tryz.prog 152 = true := by kernel_rfl
@[simp] theorem zxT : zae Tryz.prog 153 = true := by kernel_rfl
@[simp] theorem zxS : zae Tryz.prog 154 = true := by kernel_rfl
@[simp] theorem zxR : zae Tryz.prog 155 = true := by kernel_rfl
@[simp] theorem zxQ : zae Tryz.prog 156 = true := by kernel_rfl
@[simp] theorem zxP : zae Tryz.prog 157 = true := by kernel_rfl
@[simp] theorem zxO : zae Tryz.prog 159 = true := by kernel_rfl
@[simp] theorem zxN : zae Tryz.prog 160 = true := by kernel_rfl
@[simp] theorem zxM : zae Tryz.prog 166 = true := by kernel_rfl
@[simp] theorem zxL : zae Tryz.prog 167 = true := by kernel_rfl
@[simp] theorem zxK : zae Tryz.prog 168 = true := by kernel_rfl
@[simp] theorem zxJ : zae Tryz.prog 169 = true := by kernel_rfl
@[simp] theorem zxI : zae Tryz.prog 170 = true := by kernel_rfl
@[simp] theorem zxH : zae Tryz.prog 180 = true := by kernel_rfl
@[simp] theorem zxG : zae Tryz.prog 181 = true := by kernel_rfl
@[simp] theorem zxF : zae Tryz.prog 182 = true := by kernel_rfl
@[simp] theorem zxE : zae Tryz.prog 183 = true := by kernel_rfl
@[simp] theorem zxD : zae Tryz.prog 189 = true := by kernel_rfl
end Go.Proofs.YtkdhmbhbbciedaaGreatDoor
namespace Go.VL
open Go
section
theorem zrW {k n n' ret q} (_ : (True /\ True) = q) (h0 : n = n') : arith k n ret = arith k n' ret := by rw [h0]
theorem ztx {op k a b a' b' ret q} (_ : (True /\ True) = q) (h0 : a = a') (h1 : b = b') : binI op k a b ret = binI op k a' b' ret := by rw [h0, h1]
theorem ztw {op a b a' b' ret q} (_ : (True /\ True) = q) (h0 : a = a') (h1 : b = b') : binS op a b ret = binS op a' b' ret := by rw [h0, h1]
theorem ztz {P op t a b a' b' ret q} (_ : (True /\ True) = q) (h0 : a = a') (h1 : b = b') : binB P op t a b ret = binB P op t a' b' ret := by rw [h0, h1]
theorem zqa {op k a b a' b' ret q} (_ : (True /\ True) = q) (h0 : a = a') (h1 : b = b') : shiftI op k a b ret = shiftI op k a' b' ret := by rw [h0, h1]
theorem ztr {op b b' ret q} (_ : (True /\ True) = q) (h0 : b = b') : nilD op b ret = nilD op b' ret := by rw [h0]
theorem ztA {P op t x y x' y' ret q} (_ : (True /\ True) = q) (h0 : x = x') (h1 : y = y') : aggD P op t x y ret = aggD P op t x' y' ret := by rw [h0, h1]
theorem zty {P op t x y x' y' ret q} (_ : (True /\ True) = q) (h0 : x = x') (h1 : y = y') : binD P op t x y ret = binD P op t x' y' ret := by rw [h0, h1]
theorem zus {op x x' ret q} (_ : (True /\ True) = q) (h0 : x = x') : unD op x ret = unD op x' ret := by rw [h0]
theorem zrR {P s t x x' ret q} (_ : (True /\ True) = q) (h0 : x = x') : loadD P s t x ret = loadD P s t x' ret := by rw [h0]
theorem zjW {P t x f x' ret q} (_ : (True /\ True) = q) (h0 : x = x') : fieldAddrD P t x f ret = fieldAddrD P t x' f ret := by rw [h0]
theorem zqg {P t x f x' ret q} (_ : (True /\ True) = q) (h0 : x = x') : fieldD P t x f ret = fieldD P t x' f ret := by rw [h0]
theorem zmi {P s t x i x' i' ret q} (_ : (True /\ True) = q) (h0 : x = x') (h1 : i = i') : indexSlD P s t x i ret = indexSlD P s t x' i' ret := by rw [h0, h1]
theorem zos {P t i i' ret q} (_ : (True /\ True) = q) (h0 : i = i') : arrAddr P t i ret = arrAddr P t i' ret := by rw [h0]
theorem zjV {P s t x i x' i' ret q} (_ : (True /\ True) = q) (h0 : x = x') (h1 : i = i') : indexAddrD P s t x i ret = indexAddrD P s t x' i' ret := by rw [h0, h1]
theorem zqf {P t x i x' i' ret q} (_ : (True /\ True) = q) (h0 : x = x') (h1 : i = i') : indexD P t x i ret = indexD P t x' i' ret := by rw [h0, h1]
theorem ztu {n lo hi n' lo' hi' ret q} (_ : (True /\ True) = q) (h0 : n = n') (h1 : lo = lo') (h2 : hi = hi') : cutD n lo hi ret = cutD n' lo' hi' ret := by rw [h0, h1, h2]
theorem zp9 {P s t x lo hi x' lo' hi' ret q} (_ : (True /\ True) = q) (h0 : x = x') (h1 : lo = lo') (h2 : hi = hi') : sliceD P s t x lo hi ret = sliceD P s t x' lo' hi' ret := by rw [h0, h1, h2]
theorem zrU {p a c a' c' ret q} (_ : (True /\ True) = q) (h0 : a = a') (h1 : c = c') : fillD p a c ret = fillD p a' c' ret := by rw [h0, h1]
theorem zqj {P t a a' ret q} (_ : (True /\ True) = q) (h0 : a = a') : buildD P t a ret = buildD P t a' ret := by rw [h0]
theorem zts {P s t x x' ret q} (_ : (True /\ True) = q) (h0 : x = x') : lenD P s t x ret = lenD P s t x' ret := by rw [h0]
theorem zoo {b l l' ret q} (_ : (True /\ True) = q) (h0 : l = l') : minmaxD b l ret = minmaxD b l' ret := by rw [h0]
theorem zrQ {P s t x i ok x' i' ret q} (_ : (True /\ True) = q) (h0 : x = x') (h1 : i = i') : lookD P s t x i ok ret = lookD P s t x' i' ok ret := by rw [h0, h1]
theorem zrP {ag z r ok r' ret q} (_ : (True /\ True) = q) (h0 : r = r') : lookR ag z r ok ret = lookR ag z r' ok ret := by rw [h0]
theorem zrV {P a b x x' ret q} (_ : (True /\ True) = q) (h0 : x = x') : convD P a b x ret = convD P a b x' ret := by rw [h0]
theorem zlo {x x' ret q} (_ : (True /\ True) = q) (h0 : x = x') : nilCheckD x ret = nilCheckD x' ret := by rw [h0]
theorem zlp {f a b a' b' ret q} (_ : (True /\ True) = q) (h0 : a = a') (h1 : b = b') : makeFuncD f a b ret = makeFuncD f a' b' ret := by rw [h0, h1]
theorem zoq {P t x x' ret q} (_ : (True /\ True) = q) (h0 : x = x') : makeIfD P t x ret = makeIfD P t x' ret := by rw [h0]
theorem zin {P x t ok x' ret q} (_ : (True /\ True) = q) (h0 : x = x') : typeAssertD P x t ok ret = typeAssertD P x' t ok ret := by rw [h0]
theorem zqh {P s op s' ret q} (_ : (True /\ True) = q) (h0 : s = s') : evPure P s op ret = evPure P s' op ret := by rw [h0]
theorem zqk {P t s d ret q} (_ : (True /\ True) = q)  : zbU P t s d ret = zbU P t s d ret := by rfl
theorem ztv {x s d x' ret q} (_ : (True /\ True) = q) (h0 : x = x') : ze3 x s d ret = ze3 x' s d ret := by rw [h0]
theorem zp8 {P t a x s a' x' ret q} (_ : (True /\ True) = q) (h0 : a = a') (h1 : x = x') : zbR P t a x s ret = zbR P t a' x' s ret := by rw [h0, h1]
theorem zio {P t n a s d a' ret q} (_ : (True /\ True) = q) (h0 : a = a') : zaq P t n a s d ret = zaq P t n a' s d ret := by rw [h0]
theorem zot {P t x y s d x' y' ret q} (_ : (True /\ True) = q) (h0 : x = x') (h1 : y = y') : zbe P t x y s d ret = zbe P t x' y' s d ret := by rw [h0, h1]
theorem zrO {P t x y s d x' y' ret q} (_ : (True /\ True) = q) (h0 : x = x') (h1 : y = y') : zcY P t x y s d ret = zcY P t x' y' s d ret := by rw [h0, h1]
theorem zmh {P t s d ret q} (_ : (True /\ True) = q)  : zaW P t s d ret = zaW P t s d ret := by rfl
theorem zop {P t x y z s x' y' z' ret q} (_ : (True /\ True) = q) (h0 : x = x') (h1 : y = y') (h2 : z = z') : za9 P t x y z s ret = za9 P t x' y' z' s ret := by rw [h0, h1, h2]
theorem zqc {P t x s d x' ret q} (_ : (True /\ True) = q) (h0 : x = x') : zbZ P t x s d ret = zbZ P t x' s d ret := by rw [h0]
theorem zrN {x s d x' ret q} (_ : (True /\ True) = q) (h0 : x = x') : nextD x s d ret = nextD x' s d ret := by rw [h0]
theorem zqb {P t z s d z' ret q} (_ : (True /\ True) = q) (h0 : z = z') : rangeS P t z s d ret = rangeS P t z' s d ret := by rw [h0]
theorem zrM {x s d x' ret q} (_ : (True /\ True) = q) (h0 : x = x') : nextS x s d ret = nextS x' s d ret := by rw [h0]
theorem zqi {x s x' ret q} (_ : (True /\ True) = q) (h0 : x = x') : zb1 x s ret = zb1 x' s ret := by rw [h0]
theorem zqd {d d' ret q} (_ : (True /\ True) = q) (h0 : d = d') : zb0 d ret = zb0 d' ret := by rw [h0]
theorem zqe {P s t x y z x' y' z' ret q} (_ : (True /\ True) = q) (h0 : x = x') (h1 : y = y') (h2 : z = z') : mapEff P s t x y z ret = mapEff P s t x' y' z' ret := by rw [h0, h1, h2]
theorem ztt {P s op s' ret q} (_ : (True /\ True) = q) (h0 : s = s') : effD P s op ret = effD P s' op ret := by rw [h0]
theorem ztp {P s op s' ret q} (_ : (True /\ True) = q) (h0 : s = s') : valD P s op ret = valD P s' op ret := by rw [h0]
theorem zrS {P Γ d op s s' ret q} (_ : (True /\ True) = q) (h0 : s = s') : zb4 P Γ d op s ret = zb4 P Γ d op s' ret := by rw [h0]
theorem zrZ {P s f a s' ret q} (_ : (True /\ True) = q) (h0 : s = s') : CallV P s f a ret = CallV P s' f a ret := by rw [h0]
theorem ztq {P s rs s' rs' ret q} (_ : (True /\ True) = q) (h0 : s = s') (h1 : rs = rs') : zdt P s rs ret = zdt P s' rs' ret := by rw [h0, h1]
theorem zor {α : Type} {c c' : List α} {o o' l l' f g z} (_ : (True /\ True) = z) (h : c = c') (h1 : o = o') (h2 : l = l') : cellsAt c o l f g = cellsAt c' o' l' f g := by rw [h, h1, h2]
attribute [congr] zrW ztx ztw ztz zqa ztr ztA zty zus zrR zjW zqg zmi zos zjV zqf ztu zp9 zrU zqj zts zoo zrQ zrP zrV zlo zlp zoq zin zqh zqk ztv zp8 zio zot zrO zmh zop zqc zrN zqb zrM zqi zqd zqe ztt ztp zrS zrZ ztq zor
theorem zr0 {P Γ f a d s s' k z} (_ : (True /\ True) = z) (h : s = s') : CallP P Γ f a d s k = CallP P Γ f a d s' k := by rw [h]
attribute [congr] zr0
end
def Cnd (p q A B : Prop) : Prop := (p -> A) /\ (q -> B)
theorem Cnd.of {p q A B : Prop} (h : p -> A) (h' : q -> B) : Cnd p q A B := ⟨h, h'⟩
theorem zcE {A B : Prop} : Cnd True False A B = A := by simp [Cnd]
theorem zcF {A B : Prop} : Cnd False True A B = B := by simp [Cnd]
theorem zuz {p q p' q' A B z : Prop} (_ : (True /\ True) = z) (h : p = p') (h' : q = q') : Cnd p q A B = Cnd p' q' A B := by rw [h, h']
def HR (P : Program) (Γ : Ctx) : List O1 -> St -> (St -> Prop) -> Prop
 | [], s, k => k s
 | o :: r, s, k => match o.guard with
  | none => zb4 P Γ o.dst o.op s fun s' => HR P Γ r s' k
  | some (t, want) => match getK s.env t with
   | some (.u (.bool b)) => zat o.dst s ∧ Cnd (b = want) (b = !want)
         (zb4 P Γ o.dst o.op (s.put (some t) (.u (.bool want))) fun s' => HR P Γ r s' k)
         (HR P Γ r ((s.put (some t) (.u (.bool (!want)))).put o.dst .un) k)
   | some (.u (.oth v)) => v = undef /\ zat o.dst s /\ HR P Γ r (s.put o.dst .un) k
   | _ => False
theorem zsN {P Γ} {all : Array Oper} {k : St -> Prop} : ∀ {l : List O1} {ops : List Oper} {s}, za5 all ops = some l -> HR P Γ l s k -> G P Γ all ops s k
 | [], ops, s, e, h => by
  cases ops with
  | nil => exact zuP h
  | cons x l => simp only [za5] at e; split at e <;> simp at e
 | o :: r, ops, s, e, h => by
  obtain ⟨x, ops', rfl, hx, hr⟩ := zdo e;obtain ⟨dst, op, type, pos, after, guard⟩ := x;unfold zcH at hx;unfold HR at h;simp only at hx;cases guard with
  | none =>
   simp at hx;subst hx;exact znj ((zeB (o := { dst, op, type, pos, after, guard := none }) h).mono fun s' h => zsN hr h)
  | some g =>
   obtain ⟨j, b⟩ := g;simp only at hx;split at hx
   ·rename_i t ht;simp at hx;subst hx;simp only at h;split at h
    ·rename_i b' hb;obtain ⟨hp, hy, hn⟩ := h;exact zqA ht hb hp (fun e => znj ((zeB (o := { dst, op, type, pos, after, guard := none }) (hy e)).mono fun s' h => zsN hr h)) (fun e => zsN hr (hn e))
    ·rename_i v hb;obtain ⟨rfl, hp, hn⟩ := h;exact zni ht hb hp (zsN hr hn)
    ·exact h.elim
   ·cases hx
theorem zsO {P Γ all ops s} {k k' : St -> Prop} (h : G P Γ all ops s k) (hk : ∀ s, k s -> k' s) : G P Γ all ops s k' :=
 fun K a w h1 h2 Q hQ => h K a w h1 h2 Q fun K' a' w' s' h3 h4 h5 => hQ K' a' w' s' h3 h4 (hk _ h5)
def vs2 (P : Program) (Γ : Ctx) (Q : Exit -> St -> Prop) (R : Kt -> Exit -> St -> Prop) : Code -> Kt -> St -> Prop
 | .seq a b, k, s => vs2 P Γ Q R a (.seq b k) s
 | .block id c, k, s => vs2 P Γ Q R c (.blk id k) s
 | .skip, k, s => R k .normal s
 | .label _, k, s => R k .normal s
 | .exit id, k, s => R k (.exit id) s
 | .ret, k, s => R k .ret s
 | .cond c x y, k, s => match opd s c with
  | .u (.bool t) => Cnd (t = true) (t = false) (vs2 P Γ Q R x k s) (vs2 P Γ Q R y k s)
  | _ => False
 | .region _ l false, k, s => match za5 l l.toList with | some l' => HR P Γ l' s (R k .normal) | none => False
 | c, k, s => V P Γ c s (zaX P Γ Q k)
theorem zj9 {P Γ Q} {R : Kt -> Exit -> St -> Prop} (hR : ∀ k e s, R k e s -> zaX P Γ Q k e s) : ∀ {c : Code} {k : Kt} {s : St}, vs2 P Γ Q R c k s -> V P Γ c s (zaX P Γ Q k)
 | .seq a b, k, s, h => zqr (zj9 hR (c := a) (by rw [vs2] at h; exact h))
 | .block id c, k, s, h => zmr (zj9 hR (c := c) (by rw [vs2] at h; exact h))
 | .skip, k, s, h => zd1 (hR _ _ _ (by rw [vs2] at h; exact h))
 | .label _, k, s, h => zqs (hR _ _ _ (by rw [vs2] at h; exact h))
 | .exit id, k, s, h => zi9 (hR _ _ _ (by rw [vs2] at h; exact h))
 | .ret, k, s, h => zfK (hR _ _ _ (by rw [vs2] at h; exact h))
 | .cond c x y, k, s, h => by
  rw [vs2] at h;split at h
  ·rename_i t ht;exact zsK ht (fun e => zj9 hR (h.1 e)) (fun e => zj9 hR (h.2 e))
  ·exact h.elim
 | .region id l false, k, s, h => by
  rw [vs2] at h;have := zly (P := P) (Γ := Γ) (s := s) (Q := Q) (kt := k) (id := id) (l := l.toList) fun K hK => by
   split at h
   ·rename_i l' hl;simp only [Array.toArray_toList]
    try rw [hl]
    exact fun all ops e => zsO (zsN e h) fun s hs => hK _ (hR _ _ _ hs)
   ·exact h.elim
  simpa using this
 | .region _ _ true, k, s, h => by rw [vs2] at h; exact h; all_goals simp
 | .loop c, k, s, h => by rw [vs2] at h; exact h; all_goals simp
 | .rangeFunc .., k, s, h => by rw [vs2] at h; exact h; all_goals simp
 | .scope .., k, s, h => by rw [vs2] at h; exact h; all_goals simp
 | .goto .., k, s, h => by rw [vs2] at h; exact h; all_goals simp
 | .refuse .., k, s, h => by rw [vs2] at h; exact h; all_goals simp
def RN (P : Program) (Γ : Ctx) (Q : Exit -> St -> Prop) : Nat -> Kt -> Exit -> St -> Prop
 | 0, k, e, s => zaX P Γ Q k e s
 | _ + 1, .done, e, s => Q e s
 | n + 1, .seq b k, .normal, s => vs2 P Γ Q (RN P Γ Q n) b k s
 | n + 1, .seq _ k, e, s => RN P Γ Q n k e s
 | n + 1, .blk id k, .exit id', s => if id' = id then RN P Γ Q n k .normal s else RN P Γ Q n k (.exit id') s
 | n + 1, .blk _ k, e, s => RN P Γ Q n k e s
 | _ + 1, .loop I _, .normal, s => I s
 | n + 1, .loop _ k, e, s => RN P Γ Q n k e s
theorem zeI {P Γ Q} : ∀ n k e s, RN P Γ Q n k e s -> zaX P Γ Q k e s
 | 0, _, _, _, h => h
 | n + 1, k, e, s, h => by
  have ih := zeI (P := P) (Γ := Γ) (Q := Q) n;cases k <;> cases e <;> simp only [RN, zaX] at h ⊢ <;> first | exact h | exact ih _ _ _ h | exact zj9 ih h | (split at h <;> rename_i hc <;> first | (rw [if_pos hc]; exact ih _ _ _ h) | (rw [if_neg hc]; exact ih _ _ _ h))
def zu5 : Code -> Bool
 | .loop _ | .rangeFunc .. | .scope .. | .region _ _ true => false
 | _ => true
theorem zaf {P Γ Q c k s} (_ : zu5 c = true) (h : vs2 P Γ Q (RN P Γ Q 8) c k s) : V P Γ c s (zaX P Γ Q k) := zj9 (zeI 8) h
theorem zgn {P Γ Q c k s} (_ : zu5 c = true) (h : vs2 P Γ Q (RN P Γ Q 0) c k s) : V P Γ c s (zaX P Γ Q k) := zj9 (zeI 0) h
theorem zuE {P Γ c s} {Q Q' : Exit -> St -> Prop} (h : V P Γ c s Q) (hq : ∀ e s, Q e s -> Q' e s) : V P Γ c s Q' := fun K a w hin hs => by
 refine Code.wp_mono ?_ (h K a w hin hs);rintro e a' w' (⟨K', s', h2, h3, h4⟩ | h2)
 ·cases e <;> first | exact .inl ⟨K', s', h2, h3, hq _ _ h4⟩ | exact .inl ⟨K', s', h2, h3, h4⟩
 ·exact .inr h2
section
variable {P : Program} {Γ : Ctx} {Q : Exit -> St -> Prop} {R : Kt -> Exit -> St -> Prop} {k : Kt} {s s' : St} {n : Nat}
theorem zvt {l K z} (_ : (True /\ True) = z) (h : s = s') : HR P Γ l s K = HR P Γ l s' K := by rw [h]
theorem zur {c z} (_ : (True /\ True) = z) (h : s = s') : vs2 P Γ Q R c k s = vs2 P Γ Q R c k s' := by rw [h]
theorem zvs {e z} (_ : (True /\ True) = z) (h : s = s') : RN P Γ Q n k e s = RN P Γ Q n k e s' := by rw [h]
attribute [congr] zuz zvt zur zvs
theorem zcA {K} : HR P Γ [] s K = K s := rfl
theorem zbJ {d op r K} : HR P Γ (⟨d, op, none⟩ :: r) s K = zb4 P Γ d op s fun s' => HR P Γ r s' K := rfl
theorem zcB {d op t want r K} : HR P Γ (⟨d, op, some (t, want)⟩ :: r) s K = match getK s.env t with
   | some (.u (.bool b)) => zat d s /\ Cnd (b = want) (b = !want)
     (zb4 P Γ d op (s.put (some t) (.u (.bool want))) fun s' => HR P Γ r s' K)
     (HR P Γ r ((s.put (some t) (.u (.bool (!want)))).put d .un) K)
   | some (.u (.oth v)) => v = undef /\ zat d s /\ HR P Γ r (s.put d .un) K
   | _ => False := rfl
theorem zcu {a b : Code} : vs2 P Γ Q R (.seq a b) k s = vs2 P Γ Q R a (.seq b k) s := by rw [vs2]
theorem zbf {i} {a : Code} : vs2 P Γ Q R (.block i a) k s = vs2 P Γ Q R a (.blk i k) s := by rw [vs2]
theorem zbA : vs2 P Γ Q R .skip k s = R k .normal s := by rw [vs2]
theorem zbC {l} : vs2 P Γ Q R (.exit l) k s = R k (.exit l) s := by rw [vs2]
theorem zcv : vs2 P Γ Q R .ret k s = R k .ret s := by rw [vs2]
theorem zbE {c x y} : vs2 P Γ Q R (.cond c x y) k s = match opd s c with
  | .u (.bool t) => Cnd (t = true) (t = false) (vs2 P Γ Q R x k s) (vs2 P Γ Q R y k s)
  | _ => False := by rw [vs2]
theorem za0 {i} {l : List Oper} : vs2 P Γ Q R (.region i l.toArray false) k s = match za5 l.toArray l with | some l' => HR P Γ l' s (R k .normal) | none => False := by rw [vs2]
theorem zbD {i l} : vs2 P Γ Q R (.region i l true) k s = V P Γ (.region i l true) s (zaX P Γ Q k) := by rw [vs2] <;> simp
theorem zbB {c} : vs2 P Γ Q R (.loop c) k s = V P Γ (.loop c) s (zaX P Γ Q k) := by rw [vs2] <;> simp
theorem zgo {e} : RN P Γ Q 0 k e s = zaX P Γ Q k e s := rfl
theorem zbI {e} : RN P Γ Q (n + 1) .done e s = Q e s := rfl
theorem zcy {b} : RN P Γ Q (n + 1) (.seq b k) .normal s = vs2 P Γ Q (RN P Γ Q n) b k s := rfl
theorem zaQ {b} : RN P Γ Q (n + 1) (.seq b k) .ret s = RN P Γ Q n k .ret s := rfl
theorem zaB {b i} : RN P Γ Q (n + 1) (.seq b k) (.exit i) s = RN P Γ Q n k (.exit i) s := rfl
theorem zcz {i} : RN P Γ Q (n + 1) (.blk i k) .normal s = RN P Γ Q n k .normal s := rfl
theorem zaR {i} : RN P Γ Q (n + 1) (.blk i k) .ret s = RN P Γ Q n k .ret s := rfl
theorem zaD {i j} : RN P Γ Q (n + 1) (.blk i k) (.exit j) s = if j = i then RN P Γ Q n k .normal s else RN P Γ Q n k (.exit j) s := rfl
theorem zbH {I} : RN P Γ Q (n + 1) (.loop I k) .normal s = I s := rfl
theorem zaC {I} : RN P Γ Q (n + 1) (.loop I k) .ret s = RN P Γ Q n k .ret s := rfl
theorem zau {I i} : RN P Γ Q (n + 1) (.loop I k) (.exit i) s = RN P Γ Q n k (.exit i) s := rfl
end
def Pst (p : Prop) : Prop := p
theorem Pst.of {p : Prop} (h : p) : Pst p := h
theorem zuv {p z : Prop} (_ : (True /\ True) = z) : Pst p = Pst p := rfl
attribute [congr] zuv
def zfZ (P : Program) (rs : Array ResultVar) (post : D -> Prop) (e : Exit) (s : St) : Prop := (e = .normal \/ e = .ret) /\ Pst (zdt P s rs.toList fun ds => zaY (zao ds) = true /\ post (zao ds))
theorem Fun.run {P f fn c ds post nt rs} (hf : P.funcs[f]? = some fn) (hnt : fn.ntmps = nt) (hr : fn.results = rs) (hb : fn.body = some c) (hn : ds.length <= nt)
  (h : ∀ Γ : Ctx, Γ.n0 = 0 -> V P Γ c (entry ds nt [] 0) (zaX P Γ (zfZ P rs post) .done)) : Fun P f ds post := by
 subst hnt hr;exact Fun.of_body hf hb hn fun Γ hn => zuE (h Γ hn) fun e s h => EndOK.val h.1 h.2
theorem CallP.f2 {P : Program} {Γ : Ctx} {s : St} {k : St -> Prop} {dst : Option Tmp} {fop : Operand} {args : List Operand} {f caps} {ds : List D} {L : List Nat} {v : D} (hf : zag (opd s fop) = some (f, caps)) (hret : Fun P f ds (· = v))
  (hds : zb7 s (args.map (opd s) ++ caps) = some (ds, L)) (hk : zae P f = true /\ zat dst s /\ k (({ s with obs := if zaM v then s.obs else delAll s.obs L } : St).put dst v)) : CallP P Γ fop args dst s k :=
 CallP.fun_ hret hf hk.1 hds hk.2.1 fun d h => by subst h; exact hk.2.2
theorem CallV.f2 {P : Program} {s : St} {ret : D -> Prop} {fop : Operand} {args : List Operand} {f caps} {ds : List D} {L : List Nat} {v : D} (hf : zag (opd s fop) = some (f, caps)) (hret : Fun P f ds (· = v))
  (hds : zb7 s (args.map (opd s) ++ caps) = some (ds, L)) (hk : zae P f = true /\ (zaM v = true \/ L = []) /\ ret v) : CallV P s fop args ret := CallV.fun_ hret hf hk.1 hds hk.2.1 hk.2.2
theorem zmC {s : St} {nx : Nat} : ∀ {l : List (Nat × Ob)} {p : Nat × Ob}, wkO s nx l -> p ∈ l -> p.1 < nx /\ getK s.obs p.1 = some p.2 /\ p.2.under nx = true
 | q :: l, p, h, hp => by
  rcases List.mem_cons.1 hp with rfl | hp
  ·exact h.1
  ·exact zmC h.2 hp
theorem zkv {P : Program} {s : St} {K K' : List D -> Prop} (hk : ∀ ds, K ds -> K' ds) {rs : List ResultVar} (h : zdt P s rs K) : zdt P s rs K' := by
 induction rs generalizing K K' with
 | nil => exact hk _ h
 | cons r rs ih =>
  cases r with
  | tmp t => exact ih (fun ds => hk _) h
  | cell a t => exact Lin.loadD.1 _ _ (fun d hd => ih (fun ds => hk _) hd) h
theorem Wk.zda {Γ : Ctx} {s s' : St} (h : s'.n = s.n /\ Γ.n0 <= s'.next /\ wkO s s'.next s'.obs /\ wkU s'.next s'.env /\ wkE s s'.env) : Wk Γ s s' := .cut h.1 h.2.1 h.2.2.1 h.2.2.2.1 h.2.2.2.2
theorem Fun.runW {P f fn c ds post nt} (hf : P.funcs[f]? = some fn) (hnt : fn.ntmps = nt) (hb : fn.body = some c) (hn : ds.length <= nt)
  (h : ∀ Γ : Ctx, Γ.n0 = 0 -> V P Γ c (entry ds nt [] 0) (zaX P Γ (EndW P Γ fn 0 fun d _ _ => zaY d = true /\ post d) .done)) : Fun P f ds post := by subst hnt; exact Fun.of_bodyW hf hb hn h
theorem Ret.runW {P f fn c ds obs nx post nt} (hf : P.funcs[f]? = some fn) (hnt : fn.ntmps = nt) (hb : fn.body = some c) (hn : ds.length <= nt)
  (h : ∀ Γ : Ctx, Γ.n0 = nx -> V P Γ c (entry ds nt obs nx) (zaX P Γ (EndW P Γ fn nx post) .done)) : Ret P f ds obs nx post := by subst hnt; exact Ret.of_bodyW hf hb hn h
end Go.VL
namespace Go.VL
open Go
def h4s (P : Program) (R : St -> Fp4 -> Prop) (G : Prop) (dst : Option Tmp) (op : Op) (s : St) (fp : Fp4) : Prop :=
 match zbk op with
 | some _ => G
 | none => if zbj op = true then effD P s op fun e => zat dst s /\ (e.nw = none -> dst = none) /\ R (s.effS e dst) (fp ++ [(zb3 s op, match e.nw with | none => (e.U.map (·.1), 0) | some _ => (s.next :: e.U.map (·.1), 0))])
  else evPure P s op fun d => zat dst s /\ R (s.put dst d) (fp ++ [(zb3 s op, [], 0)])
def H4 (P : Program) (Γ : Ctx) (N : Nat) (C : Fp4 -> Prop) (k : St -> Prop) : List O1 -> St -> Fp4 -> Prop
 | [], s, fp => C fp /\ k s
 | o :: r, s, fp => match o.guard with
  | none => h4s P (H4 P Γ N C k r) (HD4 P Γ N (⟨o.dst, o.op, none⟩ :: r) s fp C k) o.dst o.op s fp
  | some (t, want) => match getK s.env t with
   | some (.u (.bool b)) => zat o.dst s ∧ Cnd (b = want) (b = !want)
         (h4s P (H4 P Γ N C k r) (zg5 P Γ N ⟨o.dst, o.op, none⟩ r (s.put (some t) (.u (.bool want))) fp C k) o.dst o.op (s.put (some t) (.u (.bool want))) fp)
         (H4 P Γ N C k r ((s.put (some t) (.u (.bool (!want)))).put o.dst .un) (fp ++ [([], [], 0)]))
   | some (.u (.oth v)) => v = undef /\ zat o.dst s /\ H4 P Γ N C k r (s.put o.dst .un) (fp ++ [([], [], 0)])
   | _ => False
theorem zoQ {P s op} {ret : D -> Prop} (h : zbk op = none) : valD P s op ret = evPure P s op ret := by
 cases op
 case call c =>
  obtain ⟨callee, args, ts⟩ := c;cases callee <;> first | rfl | (simp [zbk] at h)
 all_goals rfl
theorem zun {P Γ N C k} {R : St -> Fp4 -> Prop} {dst op s fp} {r : List O1} (hR : ∀ s fp, R s fp -> HD4 P Γ N r s fp C k) (h : h4s P R (zg5 P Γ N ⟨dst, op, none⟩ r s fp C k) dst op s fp) : zg5 P Γ N ⟨dst, op, none⟩ r s fp C k := by
 unfold h4s at h;split at h
 ·exact h
 ·rename_i hc;split at h
  ·rename_i he;exact zsl he (Lin.effD.1 _ _ (fun e h => ⟨h.1, h.2.1, hR _ _ h.2.2⟩) h)
  ·rename_i he;refine zeY (by simpa using he) ?_;rw [zoQ hc];exact Lin.evPure.1 _ _ (fun d h => ⟨h.1, hR _ _ h.2⟩) h
def zu7 : List O1 -> Bool
 | ⟨_, op, none⟩ :: _ => (zbk op).isNone
 | _ => true
theorem zt5 {P Γ N C k} : ∀ {l s fp}, H4 P Γ N C k l s fp -> HD4 P Γ N l s fp C k
 | [], s, fp, h => ztV h.1 h.2
 | ⟨dst, op, g⟩ :: r, s, fp, h => by
  unfold H4 at h;cases g with
  | none =>
   simp only at h;by_cases hc : (zbk op).isSome = true
   ·unfold h4s at h;split at h
    ·exact h
    ·simp_all
   ·exact .of_h (zun (fun _ _ => zt5) (by
     unfold h4s at h ⊢;split at h
     ·simp_all
     ·exact h))
  | some g =>
   obtain ⟨t, want⟩ := g;simp only at h;split at h
   ·rename_i b hb;obtain ⟨hp, hy, hn⟩ := h;exact zqy hb hp (fun e => zun (fun _ _ => zt5) (hy e)) (fun e => zt5 (hn e))
   ·rename_i v hb;obtain ⟨rfl, hp, hn⟩ := h;exact zoC hb hp (zt5 hn)
   ·exact h.elim
theorem zd2 {P Γ N C k l s fp} (_ : zu7 l = true) (h : H4 P Γ N C k l s fp) : HD4 P Γ N l s fp C k := zt5 h
theorem zeH {P Γ s} {Q : Exit -> St -> Prop} {kt : Kt} {id : Nat} {l : List Oper} (hm : P.follows .mixedOrders = true) (hord : znQ l = true) (hn0 : Γ.n0 <= s.next)
  (h : ∀ (C : Fp4 -> Prop) (k : St -> Prop), (∀ fp, zsw l fp = true -> C fp) -> (∀ s', zaX P Γ Q kt .normal s' -> k s') -> match za5 l.toArray l with | some l' => H4 P Γ s.next C k l' s [] | none => False) :
  V P Γ (.region id l.toArray true) s (zaX P Γ Q kt) := ztJ hm hord hn0 fun C k hC hk => by
 have := h C k hC hk;split at this
 ·rename_i l' hl
  (try rw [hl])
  exact zt5 this
 ·exact this.elim
section
variable {P : Program} {Γ : Ctx} {N : Nat} {C : Fp4 -> Prop} {k : St -> Prop} {s s' : St} {fp fp' : Fp4}
theorem zvv {l z} (_ : (True /\ True) = z) (h : s = s') (h' : fp = fp') : H4 P Γ N C k l s fp = H4 P Γ N C k l s' fp' := by rw [h, h']
theorem zut {R G d op z} (_ : (True /\ True) = z) (h : s = s') (h' : fp = fp') : h4s P R G d op s fp = h4s P R G d op s' fp' := by rw [h, h']
theorem zuw {l z} (_ : (True /\ True) = z) (h : s = s') (h' : fp = fp') : HD4 P Γ N l s fp C k = HD4 P Γ N l s' fp' C k := by rw [h, h']
theorem ztC {o l z} (_ : (True /\ True) = z) (h : s = s') (h' : fp = fp') : zg5 P Γ N o l s fp C k = zg5 P Γ N o l s' fp' C k := by rw [h, h']
attribute [congr] zvv zut zuw ztC
theorem zcC : H4 P Γ N C k [] s fp = (C fp /\ k s) := rfl
theorem zbK {d op r} : H4 P Γ N C k (⟨d, op, none⟩ :: r) s fp = h4s P (H4 P Γ N C k r) (HD4 P Γ N (⟨d, op, none⟩ :: r) s fp C k) d op s fp := rfl
theorem zcD {d op r t want} : H4 P Γ N C k (⟨d, op, some (t, want)⟩ :: r) s fp = match getK s.env t with
   | some (.u (.bool b)) => zat d s /\ Cnd (b = want) (b = !want)
     (h4s P (H4 P Γ N C k r) (zg5 P Γ N ⟨d, op, none⟩ r (s.put (some t) (.u (.bool want))) fp C k) d op (s.put (some t) (.u (.bool want))) fp)
     (H4 P Γ N C k r ((s.put (some t) (.u (.bool (!want)))).put d .un) (fp ++ [([], [], 0)]))
   | some (.u (.oth v)) => v = undef /\ zat d s /\ H4 P Γ N C k r (s.put d .un) (fp ++ [([], [], 0)])
   | _ => False := rfl
end
theorem EndW.z {P : Program} {Γ : Ctx} {fn : Func} {n0 N : Nat} {post : D -> List (Nat × Ob) -> Nat -> Prop} {e : Exit} {s : St} {rs : Array ResultVar} (O : List (Nat × Ob)) (hr : fn.results = rs)
  (h : (e = .normal \/ e = .ret) /\ n0 <= N /\ wkO s N O) (h3 : zdt P s rs.toList fun ds => (zao ds).under N = true /\ post (zao ds) O N) : EndW P Γ fn n0 post e s := by
 subst hr;refine .here (.fin h.1 ?_);obtain ⟨_, h1, h2⟩ := h;exact zkv (fun ds h => FinOK.cut O N (fun p hp => ⟨(zmC h2 hp).2.1, (zmC h2 hp).1, (zmC h2 hp).2.2⟩) h.1 h1 h.2) h3
theorem EndW.h {P : Program} {Γ : Ctx} {fn : Func} {n0 : Nat} {post : D -> List (Nat × Ob) -> Nat -> Prop} {e : Exit} {s : St} {rs : Array ResultVar} (hr : fn.results = rs)
  (h : (e = .normal \/ e = .ret) /\ n0 <= s.next /\ zdt P s rs.toList fun ds => post (zao ds) s.obs s.next) : EndW P Γ fn n0 post e s := by
 subst hr;exact .here (.fin h.1 (zkv (fun ds h' => FinOK.here h.2.1 h') h.2.2))
theorem PanG.k {Γ : Ctx} {post : Out -> List (Nat × Ob) -> Nat -> Prop} {ch : List PanicEntry} {s : St} (O : List (Nat × Ob)) (N : Nat) (h : Γ.n0 <= N /\ wkO s N O) (hp : post (.pan ch) O N) : PanG Γ post ch s :=
 ⟨⟨s.n, [], O, N⟩, Wk.cut rfl h.1 h.2 trivial trivial, h.1, hp⟩
theorem RetX.runW {P f fn c ds obs nx post nt} (hf : P.funcs[f]? = some fn) (hnt : fn.ntmps = nt) (hb : fn.body = some c) (hn : ds.length <= nt)
  (h : ∀ Γ : Ctx, Γ.n0 = nx -> (∀ ch s, PanG Γ post ch s -> Γ.pan ch s) -> V P Γ c (entry ds nt obs nx) (zaX P Γ (EndW P Γ fn nx fun d o n => post (.val d) o n) .done)) : RetX P f ds obs nx post := by
 subst hnt; exact RetX.of_bodyW hf hb hn h
end Go.VL
namespace Go.Pm
end Go.Pm
namespace Go.Pm
open Go Go.VL
end Go.Pm
namespace Go.Proofs
open Go.Shelf
def Tryz.zfX : Go.Shelf.Ren := ⟨fun | 169 => 51 | n => n, fun | 70 => 85 | 9 => 9 | 0 => 0 | 72 => 88 | 37 => 86 | 127 => 119 | 3 => 3 | 5 => 5 | n => n, fun | n => n⟩
theorem Tryz.ztM : Go.Proofs.Lays.n169 Tryz.prog Tryz.zfX := {
 mixed := by kernel_rfl
 f169 := Tryz.func51.trans (congrArg some (by kernel_rfl))
 t0 := Tryz.underlying0
 a0 := Tryz.isAgg0
 z0 := Tryz.sizeOf0
 v0 := Tryz.zeroValue0
 t3 := Tryz.underlying3
 a3 := Tryz.isAgg3
 z3 := Tryz.sizeOf3
 v3 := Tryz.zeroValue3
 t9 := Tryz.underlying9
 a9 := Tryz.isAgg9
 z9 := Tryz.sizeOf9
 v9 := Tryz.zeroValue9
 t37 := Tryz.underlying86
 a37 := Tryz.isAgg86
 z37 := Tryz.sizeOf86
 v37 := Tryz.zeroValue86
 t70 := Tryz.underlying85
 a70 := Tryz.isAgg85
 z70 := Tryz.sizeOf85
 v70 := Tryz.zeroValue85
 t72 := Tryz.underlying88
 a72 := Tryz.isAgg88
 z72 := Tryz.sizeOf88
 v72 := Tryz.zeroValue88
 t127 := Tryz.underlying119
 a127 := Tryz.isAgg119
 z127 := Tryz.sizeOf119
 v127 := Tryz.zeroValue119 }
theorem Tryz.zgR : Builder.Extra Tryz.prog Tryz.zfX := {
 sizeBuilder := by kernel_rfl
 liesBuilder := by kernel_rfl
 t5 := Tryz.underlying5
 a5 := Tryz.isAgg5
 z5 := Tryz.sizeOf5
 v5 := Tryz.zeroValue5
 infoByte := by kernel_rfl
 cellsByte := by kernel_rfl
 sizeByte := by kernel_rfl
 neB5 := by decide }
def Tryz.zlz : Go.Shelf.Ren := ⟨fun | 171 => 84 | 243 => 130 | 246 => 158 | 283 => 175 | 284 => 176 | 285 => 177 | 286 => 178 | 129 => 185 | 317 => 184 | 318 => 186 | 319 => 187 | 320 => 188 | 337 => 190 | 338 => 191 | n => n, fun | 3 => 3 | 9 => 9 | 2 => 2 | 4 => 4 | 171 => 221 | 0 => 0 | 53 => 191 | 37 => 86 | 5 => 5 | 173 => 224 | 212 => 227 | 51 => 214 | 20 => 20 | 213 => 228 | 46 => 190 | 232 => 231 | 233 => 232 | n => n, fun | 17 => 9 | 18 => 10 | 19 => 11 | n => n⟩
theorem Tryz.zsg : Go.Proofs.LaysM.n171 Tryz.prog Tryz.zlz := {
 mixed := by kernel_rfl
 f129 := Tryz.func185.trans (congrArg some (by kernel_rfl))
 f171 := Tryz.func84.trans (congrArg some (by kernel_rfl))
 f243 := Tryz.func130.trans (congrArg some (by kernel_rfl))
 f246 := Tryz.func158.trans (congrArg some (by kernel_rfl))
 f283 := Tryz.func175.trans (congrArg some (by kernel_rfl))
 f284 := Tryz.func176.trans (congrArg some (by kernel_rfl))
 f285 := Tryz.func177.trans (congrArg some (by kernel_rfl))
 f286 := Tryz.func178.trans (congrArg some (by kernel_rfl))
 f317 := Tryz.func184.trans (congrArg some (by kernel_rfl))
 f318 := Tryz.func186.trans (congrArg some (by kernel_rfl))
 f319 := Tryz.func187.trans (congrArg some (by kernel_rfl))
 f320 := Tryz.func188.trans (congrArg some (by kernel_rfl))
 f337 := Tryz.func190.trans (congrArg some (by kernel_rfl))
 f338 := Tryz.func191.trans (congrArg some (by kernel_rfl))
 t0 := Tryz.underlying0
 a0 := Tryz.isAgg0
 z0 := Tryz.sizeOf0
 v0 := Tryz.zeroValue0
 t2 := Tryz.underlying2
 a2 := Tryz.isAgg2
 z2 := Tryz.sizeOf2
 v2 := Tryz.zeroValue2
 t3 := Tryz.underlying3
 a3 := Tryz.isAgg3
 z3 := Tryz.sizeOf3
 v3 := Tryz.zeroValue3
 t4 := Tryz.underlying4
 a4 := Tryz.isAgg4
 z4 := Tryz.sizeOf4
 v4 := Tryz.zeroValue4
 t5 := Tryz.underlying5
 a5 := Tryz.isAgg5
 z5 := Tryz.sizeOf5
 v5 := Tryz.zeroValue5
 t9 := Tryz.underlying9
 a9 := Tryz.isAgg9
 z9 := Tryz.sizeOf9
 v9 := Tryz.zeroValue9
 t20 := Tryz.underlying20
 a20 := Tryz.isAgg20
 z20 := Tryz.sizeOf20
 v20 := Tryz.zeroValue20
 t37 := Tryz.underlying86
 a37 := Tryz.isAgg86
 z37 := Tryz.sizeOf86
 v37 := Tryz.zeroValue86
 t46 := Tryz.underlying190
 a46 := Tryz.isAgg190
 z46 := Tryz.sizeOf190
 v46 := Tryz.zeroValue190
 t51 := Tryz.underlying214
 a51 := Tryz.isAgg214
 z51 := Tryz.sizeOf214
 v51 := Tryz.zeroValue214
 t53 := Tryz.underlying191
 a53 := Tryz.isAgg191
 z53 := Tryz.sizeOf191
 v53 := Tryz.zeroValue191
 t171 := Tryz.underlying221
 a171 := Tryz.isAgg221
 z171 := Tryz.sizeOf221
 v171 := Tryz.zeroValue221
 t173 := Tryz.underlying224
 a173 := Tryz.isAgg224
 z173 := Tryz.sizeOf224
 v173 := Tryz.zeroValue224
 t212 := Tryz.underlying227
 a212 := Tryz.isAgg227
 z212 := Tryz.sizeOf227
 v212 := Tryz.zeroValue227
 t213 := Tryz.underlying228
 a213 := Tryz.isAgg228
 z213 := Tryz.sizeOf228
 t232 := Tryz.underlying231
 a232 := Tryz.isAgg231
 z232 := Tryz.sizeOf231
 v232 := Tryz.zeroValue231
 t233 := Tryz.underlying232
 a233 := Tryz.isAgg232
 z233 := Tryz.sizeOf232
 v233 := Tryz.zeroValue232
 g17 := by kernel_rfl
 g18 := by kernel_rfl
 g19 := by kernel_rfl
 i0 := by kernel_rfl
 i2 := by kernel_rfl
 i3 := by kernel_rfl
 i4 := by kernel_rfl
 i5 := by kernel_rfl
 i9 := by kernel_rfl
 i20 := by kernel_rfl
 i37 := by kernel_rfl
 i46 := by kernel_rfl
 i51 := by kernel_rfl
 i53 := by kernel_rfl
 i171 := by kernel_rfl
 i173 := by kernel_rfl
 i212 := by kernel_rfl
 i232 := by kernel_rfl
 i233 := by kernel_rfl
 m17 := by kernel_rfl
 m18 := by kernel_rfl
 m19 := by kernel_rfl }
open Go.RowKit Go.Sort Go.Lib in
theorem Tryz.strconv_Itoa (n : Int) (h0 : -9223372036854775808 <= n) (h1 : n <= 9223372036854775807) (w : World) (htab : Lib.TabIs Tryz.prog w "internal/strconv.uint64pow10" .u64 Lib.pow10Tab) :
  Calls Tryz.prog 84 #[.int .i64 n] w fun e w' => e = .returned (.string ⟨(Lib.itoa n).toArray⟩) /\ ∃ k os, w' = grow (w.drewN k) os := Any.strconv_Itoa Tryz.zsg n h0 h1 w htab
def Tryz.zlA : Go.Shelf.Ren := ⟨fun | 172 => 45 | 244 => 78 | 245 => 79 | 247 => 120 | 279 => 121 | 280 => 122 | 281 => 123 | 282 => 124 | 287 => 149 | 316 => 150 | 171 => 84 | 205 => 151 | 321 => 173 | 322 => 174 | 243 => 130 | 246 => 158 | 283 => 175 | 284 => 176 | 285 => 177 | 286 => 178 | 129 => 185 | 317 => 184 | 318 => 186 | 319 => 187 | 320 => 188 | 337 => 190 | 338 => 191 | n => n, fun | 9 => 9 | 3 => 3 | 75 => 78 | 76 => 79 | 4 => 4 | 5 => 5 | 167 => 156 | 37 => 86 | 0 => 0 | 85 => 157 | 2 => 2 | 168 => 159 | 53 => 191 | 175 => 192 | 46 => 190 | 210 => 196 | 127 => 119 | 145 => 220 | 143 => 218 | 21 => 21 | 171 => 221 | 173 => 224 | 212 => 227 | 51 => 214 | 20 => 20 | 213 => 228 | 232 => 231 | 233 => 232 | 80 => 90 | n => n, fun | 15 => 2 | 16 => 3 | 17 => 9 | 18 => 10 | 19 => 11 | n => n⟩
theorem Tryz.zj3 : Go.Proofs.LaysC.n172 Tryz.prog Tryz.zlA := {
 mixed := by kernel_rfl
 f129 := Tryz.func185.trans (congrArg some (by kernel_rfl))
 f171 := Tryz.func84.trans (congrArg some (by kernel_rfl))
 f172 := Tryz.func45.trans (congrArg some (by kernel_rfl))
 f205 := Tryz.func151.trans (congrArg some (by kernel_rfl))
 f243 := Tryz.func130.trans (congrArg some (by kernel_rfl))
 f244 := Tryz.func78.trans (congrArg some (by kernel_rfl))
 f245 := Tryz.func79.trans (congrArg some (by kernel_rfl))
 f246 := Tryz.func158.trans (congrArg some (by kernel_rfl))
 f247 := Tryz.func120.trans (congrArg some (by kernel_rfl))
 f279 := Tryz.func121.trans (congrArg some (by kernel_rfl))
 f280 := Tryz.func122.trans (congrArg some (by kernel_rfl))
 f281 := Tryz.func123.trans (congrArg some (by kernel_rfl))
 f282 := Tryz.func124.trans (congrArg some (by kernel_rfl))
 f283 := Tryz.func175.trans (congrArg some (by kernel_rfl))
 f284 := Tryz.func176.trans (congrArg some (by kernel_rfl))
 f285 := Tryz.func177.trans (congrArg some (by kernel_rfl))
 f286 := Tryz.func178.trans (congrArg some (by kernel_rfl))
 f287 := Tryz.func149.trans (congrArg some (by kernel_rfl))
 f316 := Tryz.func150.trans (congrArg some (by kernel_rfl))
 f317 := Tryz.func184.trans (congrArg some (by kernel_rfl))
 f318 := Tryz.func186.trans (congrArg some (by kernel_rfl))
 f319 := Tryz.func187.trans (congrArg some (by kernel_rfl))
 f320 := Tryz.func188.trans (congrArg some (by kernel_rfl))
 f321 := Tryz.func173.trans (congrArg some (by kernel_rfl))
 f322 := Tryz.func174.trans (congrArg some (by kernel_rfl))
 f337 := Tryz.func190.trans (congrArg some (by kernel_rfl))
 f338 := Tryz.func191.trans (congrArg some (by kernel_rfl))
 t0 := Tryz.underlying0
 a0 := Tryz.isAgg0
 z0 := Tryz.sizeOf0
 v0 := Tryz.zeroValue0
 t2 := Tryz.underlying2
 a2 := Tryz.isAgg2
 z2 := Tryz.sizeOf2
 v2 := Tryz.zeroValue2
 t3 := Tryz.underlying3
 a3 := Tryz.isAgg3
 z3 := Tryz.sizeOf3
 v3 := Tryz.zeroValue3
 t4 := Tryz.underlying4
 a4 := Tryz.isAgg4
 z4 := Tryz.sizeOf4
 v4 := Tryz.zeroValue4
 t5 := Tryz.underlying5
 a5 := Tryz.isAgg5
 z5 := Tryz.sizeOf5
 v5 := Tryz.zeroValue5
 t9 := Tryz.underlying9
 a9 := Tryz.isAgg9
 z9 := Tryz.sizeOf9
 v9 := Tryz.zeroValue9
 t20 := Tryz.underlying20
 a20 := Tryz.isAgg20
 z20 := Tryz.sizeOf20
 v20 := Tryz.zeroValue20
 t21 := Tryz.underlying21
 a21 := Tryz.isAgg21
 z21 := Tryz.sizeOf21
 v21 := Tryz.zeroValue21
 t37 := Tryz.underlying86
 a37 := Tryz.isAgg86
 z37 := Tryz.sizeOf86
 v37 := Tryz.zeroValue86
 t46 := Tryz.underlying190
 a46 := Tryz.isAgg190
 z46 := Tryz.sizeOf190
 v46 := Tryz.zeroValue190
 t51 := Tryz.underlying214
 a51 := Tryz.isAgg214
 z51 := Tryz.sizeOf214
 v51 := Tryz.zeroValue214
 t53 := Tryz.underlying191
 a53 := Tryz.isAgg191
 z53 := Tryz.sizeOf191
 v53 := Tryz.zeroValue191
 t75 := Tryz.underlying78
 a75 := Tryz.isAgg78
 z75 := Tryz.sizeOf78
 v75 := Tryz.zeroValue78
 t76 := Tryz.underlying79
 a76 := Tryz.isAgg79
 z76 := Tryz.sizeOf79
 v76 := Tryz.zeroValue79
 t85 := Tryz.underlying157
 a85 := Tryz.isAgg157
 z85 := Tryz.sizeOf157
 v85 := Tryz.zeroValue157
 t127 := Tryz.underlying119
 a127 := Tryz.isAgg119
 z127 := Tryz.sizeOf119
 v127 := Tryz.zeroValue119
 t143 := Tryz.underlying218
 a143 := Tryz.isAgg218
 z143 := Tryz.sizeOf218
 v143 := Tryz.zeroValue218
 t145 := Tryz.underlying220
 a145 := Tryz.isAgg220
 z145 := Tryz.sizeOf220
 v145 := Tryz.zeroValue220
 t167 := Tryz.underlying156
 a167 := Tryz.isAgg156
 z167 := Tryz.sizeOf156
 v167 := Tryz.zeroValue156
 t168 := Tryz.underlying159
 a168 := Tryz.isAgg159
 z168 := Tryz.sizeOf159
 v168 := Tryz.zeroValue159
 t171 := Tryz.underlying221
 a171 := Tryz.isAgg221
 z171 := Tryz.sizeOf221
 v171 := Tryz.zeroValue221
 t173 := Tryz.underlying224
 a173 := Tryz.isAgg224
 z173 := Tryz.sizeOf224
 v173 := Tryz.zeroValue224
 t175 := Tryz.underlying192
 a175 := Tryz.isAgg192
 z175 := Tryz.sizeOf192
 v175 := Tryz.zeroValue192
 t210 := Tryz.underlying196
 a210 := Tryz.isAgg196
 z210 := Tryz.sizeOf196
 v210 := Tryz.zeroValue196
 t212 := Tryz.underlying227
 a212 := Tryz.isAgg227
 z212 := Tryz.sizeOf227
 v212 := Tryz.zeroValue227
 t213 := Tryz.underlying228
 a213 := Tryz.isAgg228
 z213 := Tryz.sizeOf228
 t232 := Tryz.underlying231
 a232 := Tryz.isAgg231
 z232 := Tryz.sizeOf231
 v232 := Tryz.zeroValue231
 t233 := Tryz.underlying232
 a233 := Tryz.isAgg232
 z233 := Tryz.sizeOf232
 v233 := Tryz.zeroValue232
 g15 := by kernel_rfl
 g16 := by kernel_rfl
 g17 := by kernel_rfl
 g18 := by kernel_rfl
 g19 := by kernel_rfl
 t80 := Tryz.underlying90
 a80 := Tryz.isAgg90
 z80 := Tryz.sizeOf90
 v80 := Tryz.zeroValue90
 i0 := by kernel_rfl
 i2 := by kernel_rfl
 i3 := by kernel_rfl
 i4 := by kernel_rfl
 i5 := by kernel_rfl
 i9 := by kernel_rfl
 i20 := by kernel_rfl
 i21 := by kernel_rfl
 i37 := by kernel_rfl
 i46 := by kernel_rfl
 i51 := by kernel_rfl
 i53 := by kernel_rfl
 i75 := by kernel_rfl
 i76 := by kernel_rfl
 i80 := by kernel_rfl
 i85 := by kernel_rfl
 i127 := by kernel_rfl
 i143 := by kernel_rfl
 i145 := by kernel_rfl
 i167 := by kernel_rfl
 i168 := by kernel_rfl
 i171 := by kernel_rfl
 i173 := by kernel_rfl
 i175 := by kernel_rfl
 i210 := by kernel_rfl
 i212 := by kernel_rfl
 i232 := by kernel_rfl
 i233 := by kernel_rfl
 m15 := by kernel_rfl
 m16 := by kernel_rfl
 m17 := by kernel_rfl
 m18 := by kernel_rfl
 m19 := by kernel_rfl
 c0 := by kernel_rfl
 c2 := by kernel_rfl
 c3 := by kernel_rfl
 c4 := by kernel_rfl
 c5 := by kernel_rfl
 c9 := by kernel_rfl
 c20 := by kernel_rfl
 c21 := by kernel_rfl
 c37 := by kernel_rfl
 c46 := by kernel_rfl
 c51 := by kernel_rfl
 c53 := by kernel_rfl
 c75 := by kernel_rfl
 c76 := by kernel_rfl
 c80 := by kernel_rfl
 c85 := by kernel_rfl
 c127 := by kernel_rfl
 c143 := by kernel_rfl
 c145 := by kernel_rfl
 c167 := by kernel_rfl
 c168 := by kernel_rfl
 c171 := by kernel_rfl
 c173 := by kernel_rfl
 c175 := by kernel_rfl
 c210 := by kernel_rfl
 c212 := by kernel_rfl
 c213 := by kernel_rfl
 c232 := by kernel_rfl
 c233 := by kernel_rfl }
open Go.RowKit in
theorem Tryz.strconv_Atoi_ok (s : ByteArray) (hmax : s.size <= 9223372036854775806) (v : Int) (h : Lib.atoiAll s.data.toList = .ok v) (w : World) :
  Calls Tryz.prog 45 #[.string s] w fun e w' => e = .returned (.tuple #[.int .i64 v, .nilIface]) /\ (w' = w \/ ∃ t, w' = Lib.bytesWorld w 5 t) := Any.strconv_Atoi_ok Tryz.zj3 s hmax v h w
open Go.RowKit in
theorem Tryz.strconv_Atoi_syntax (s : ByteArray) (hlim : s.size <= 281474976710656) (h0 : match Lib.atoiAll s.data.toList with | .ok _ => False | .range => False | _ => True) (ev : Value) (w : World) (hv : w.cell? ⟨2, 0, none⟩ = some ev) (hev : ev = .nilIface \/ ∃ te pe, ev = .iface te pe) :
  Calls Tryz.prog 45 #[.string s] w fun e w' => ∃ N, e = .returned (.tuple #[.int .i64 (0), .iface 159 (.pointer (some ⟨N, 0, none⟩))]) /\ w.heap.size <= N /\ w'.heap[N]? = some (.cells #[.string ⟨#[65, 116, 111, 105]⟩, .string s, ev] 196 (0, 0)) /\ Below w.heap.size w w' := Any.strconv_Atoi_syntax Tryz.zj3 s hlim (by revert h0; cases Lib.atoiAll s.data.toList <;> simp) ev w hv hev
open Go.RowKit in
theorem Tryz.strconv_Atoi_range (s : ByteArray) (hlim : s.size <= 281474976710656) (h : Lib.atoiAll s.data.toList = .range) (ev : Value) (w : World) (hv : w.cell? ⟨3, 0, none⟩ = some ev) (hev : ev = .nilIface \/ ∃ te pe, ev = .iface te pe) :
  Calls Tryz.prog 45 #[.string s] w fun e w' => ∃ N, e = .returned (.tuple #[.int .i64 (Lib.atoiSat s.data.toList), .iface 159 (.pointer (some ⟨N, 0, none⟩))]) /\ w.heap.size <= N /\ w'.heap[N]? = some (.cells #[.string ⟨#[65, 116, 111, 105]⟩, .string s, ev] 196 (0, 0)) /\ Below w.heap.size w w' := Any.strconv_Atoi_range Tryz.zj3 s hlim h ev w hv hev
def Tryz.zms : Go.Shelf.Ren := ⟨fun | 217 => 145 | 266 => 171 | n => n, fun | 9 => 9 | 5 => 5 | 3 => 3 | n => n, fun | n => n⟩
theorem Tryz.ztL : Go.Proofs.Lays.n217 Tryz.prog Tryz.zms := {
 mixed := by kernel_rfl
 f217 := Tryz.func145.trans (congrArg some (by kernel_rfl))
 f266 := Tryz.func171.trans (congrArg some (by kernel_rfl))
 t3 := Tryz.underlying3
 a3 := Tryz.isAgg3
 z3 := Tryz.sizeOf3
 v3 := Tryz.zeroValue3
 t5 := Tryz.underlying5
 a5 := Tryz.isAgg5
 z5 := Tryz.sizeOf5
 v5 := Tryz.zeroValue5
 t9 := Tryz.underlying9
 a9 := Tryz.isAgg9
 z9 := Tryz.sizeOf9
 v9 := Tryz.zeroValue9 }
open Go.RowKit Go.Lib in
theorem Tryz.stringslite_IndexByte (s : ByteArray) (c : Int) (w : World) :
  Calls Tryz.prog 145 #[.string s, .int .u8 c] w fun e w' => e = .returned (.int .i64 (Lib.indexByte s.data.toList c.toNat.toUInt8)) /\ w' = w := Any.stringslite_IndexByte Tryz.ztL s c w
end Go.Proofs
namespace Go.VL
open Go
end Go.VL
namespace Go.VL
open Go
section
variable {P : Program} {l : List Oper} {o : Oper} {Q Q1 : Exit -> Act -> World -> Prop}
end
end Go.VL
namespace Go.VL
open Go Go.Lib
def zeD (l : List UInt8) : List (List U) := l.map fun c => [.int .u8 c.toNat]
abbrev zdK (l : List UInt8) : List (List D) := rowsD (zeD l)
theorem zox (l : List UInt8) : (zeD l).length = l.length := by simp [zeD]
theorem zoy (a b : List UInt8) : zeD (a ++ b) = zeD a ++ zeD b := by simp [zeD]
theorem zgM (l : List UInt8) : (zdK l).length = l.length := by simp [zeD]
theorem zdv (l : List UInt8) : zdK l = l.map fun c => [.u (.int .u8 c.toNat)] := by simp [zdK, zeD, rowsD, Function.comp_def]
theorem zoB {P : Program} (w : World) {t u ty e : TypeId} {i : TypeInfo} (ht : P.underlying t = some (.slice e)) (hu : P.underlying u = some .string) (hi : P.info? e = some i) (hz : i.zero = some (.int .u8 0)) (hsize : i.size = 1) (hby : i.bytes = 1)
  {v : Value} {n : Nat} {xs : List Value} (hown : w.ownsRow 0 e 1 v n xs) (s : ByteArray) (hb : n + s.size <= 140737488355328) :
  ∃ v' w', (Builtin.append_ #[t, u] ty #[v, .string s]).run P w = .ok v' w' /\ w'.ownsRow 0 e 1 v' (n + s.size) (xs ++ strCells s) /\ w.grownBy w' v.ownBlock /\
   (v'.ownBlock = v.ownBlock \/ ∃ b, w.heap.size <= b /\ v'.ownBlock = some b) := by
 have h63 : n + s.size <= maxLen := by unfold maxLen; omega
 obtain ⟨v', w', hr, h2, h3, _⟩ := run_append_own_string w 0 t u ty e i ht hu hi hz hsize hby v n xs hown s h63 hb (Nat.zero_le _);refine ⟨v', w', hr, h2, h3, ?_⟩;rcases hown.2 with ⟨rfl, rfl⟩ | ⟨g, cap, cur, rfl, hbg, hg, hnc, hcm, hcs, htake⟩
 ·have hx : xs = [] := List.eq_nil_of_length_eq_zero (by simpa using hown.1);subst hx;obtain ⟨v2, w2, hr2, h4, _⟩ := run_append_own_string w w.heap.size t u ty e i ht hu hi hz hsize hby (.slice none 0 0) 0 [] (World.ownsRow_nil w w.heap.size e 1) s h63 hb (Nat.le_refl _);rw [hr] at hr2;cases hr2;rcases h4.2 with ⟨rfl, _⟩ | ⟨g, cap, cur, rfl, hbg, _⟩
  ·exact .inl rfl
  ·exact .inr ⟨g, hbg, rfl⟩
 ·by_cases hroom : n + s.size <= cap
  ·have hcs' : cur.size = cap := by simpa using hcs
   have hr2 := run_append_room_string (P := P) w t u ty e i ht hu hi hsize g n cap cur hg s hroom (by omega);rw [hr] at hr2;cases hr2;exact .inl rfl
  ·have holds : ∀ j u, xs[j]? = some u -> w.cell? ((⟨g, 0, none⟩ : Addr).add j) = some u := hown.cells (g := g) rfl;have hxl : xs.length = n := by simpa using hown.1
   have hr2 := run_append_grow_string (P := P) w t u ty e i (.int .u8 0) ht hu hi hz ⟨g, 0, none⟩ n cap xs (by rw [hsize]; simpa using hxl) holds s (by omega) (by omega) (by rw [hby]; exact growslice_fits (by omega) (by omega));rw [hr] at hr2;cases hr2;exact .inr ⟨_, Nat.le_refl _, rfl⟩
def zml (P : Program) (t u : TypeId) : Option TypeId := match P.underlying t, P.underlying u with
 | some (.slice e), some .string => match P.info? e with
  | some i => match i.zero with
   | some (.int .u8 z) => if z = 0 /\ i.size = 1 /\ i.bytes = 1 then some e else none
   | _ => none
  | none => none
 | _, _ => none
def zgk (P : Program) (t u : TypeId) (x y : D) (s : St) (dst : Option Tmp) (k : St -> Prop) : Prop := match x, y with
 | .vec i len, .u (.str l) => match getK s.obs i with
  | some (.vec e sz rows) => zml P t u = some e /\ sz = 1 /\ len = rows.length /\ zat dst s /\ len + l.length <= 140737488355328 /\
    k ((({ s with obs := del s.obs i } : St).add (.vec e 1 (rows ++ zdK l))).put dst (.vec s.next (len + l.length)))
  | _ => False
 | _, _ => False
theorem Eff.ztY {P Γ o s k x y t u} (ho : o.op = .call { callee := .builtin .append, args := #[x, y], argTypes := #[t, u] }) (h : zgk P t u (opd s x) (opd s y) s o.dst k) : Eff P Γ o s k := by
 intro K a w hin hs Kont Q hK;obtain ⟨dst, op, type, pos, after, guard⟩ := o;simp only at ho h;subst ho;unfold zgk at h;split at h
 case h_2 => exact h.elim
 rename_i i len l hx hy;split at h
 case h_2 => exact h.elim
 rename_i e sz rows hg;obtain ⟨he, rfl, rfl, hp, hlen0, hk⟩ := h;unfold zml at he;split at he
 case h_2 => cases he
 rename_i e0 ht hu;split at he
 case h_2 => cases he
 rename_i inf hi;split at he
 case h_2 => cases he
 rename_i z hz;split at he
 case isFalse => cases he
 rename_i hinf;cases he;obtain ⟨rfl, hsize, hby⟩ := hinf;have hnext := hs.hdr s.next (Nat.le_refl _)
 have hxr := zaF hs x;rw [hx] at hxr;obtain ⟨gi, hgi, hxv⟩ := zeg hxr;have hyr := zaF hs y;rw [hy] at hyr;have hyv := zet hyr;obtain ⟨g2, xs, hg2, hrow, hpos, hlen, hcs, hno⟩ := (hs.sat.ob _ _ hg).vec;rw [hgi] at hg2;simp only [Option.some.injEq] at hg2;subst hg2;have hls : (ByteArray.mk l.toArray).size = l.length := by simp [ByteArray.size]
 obtain ⟨v', w', hrun, hown, hgrow, hob⟩ := zoB w (ty := type) ht hu hi hz hsize hby hrow ⟨l.toArray⟩ (by rw [hls]; exact hlen0);rw [hls] at hown;obtain ⟨g, hv', hgv⟩ := zjr hown;subst hv';have hrun' : (execOp a.eval { dst, op := .call { callee := .builtin .append, args := #[x, y], argTypes := #[t, u] }, type, pos, after, guard }).run P w = .ok (.value (za4 g (rows.length + l.length))) w' := by
  simp only [execOp];simp [resolve, invoke, builtin, hxv, hyv, hrun]
 unfold Oper.wp;rw [hrun'];have hle := Kr.zfL (k := K) (h := g) hnext;have hvb : (za4 gi rows.length).ownBlock = gi.1 := by
  obtain ⟨gb, gc⟩ := gi;cases gb <;> rfl
 rw [hvb] at hgrow hob;have hin' : In Γ (K.add s.next g) w' := (hin.grown hgrow (fun b e => (hno b e).1)).step hle (fun _ _ _ e => .inl e) rfl rfl rfl (Nat.le_refl _) fun _ _ => rfl;have hd := hs.sat.del i;have hnb : ∀ b, gi.1 = some b -> ¬ Blk K (del s.obs i) b := fun b e ⟨j, oj, gj, h1, h2, h3⟩ => by
  rw [zac] at h1;split at h1
  ·cases h1
  ·rename_i hji;exact hs.sat.apart i j _ oj gi gj b hg h1 (Ne.symm hji) hgi h2 e h3
 have hold : ∀ b, b < w.heap.size -> gi.1 ≠ some b -> w'.heap[b]? = w.heap[b]? := fun b hb hne => hgrow.block b hb (fun e => hne e.symm);have hcell : ∀ j : Nat, (strCells ⟨l.toArray⟩)[j]? = (l[j]?).map fun c : UInt8 => Value.int .u8 c.toNat := fun j => by simp [strCells]
 suffices hsim : Sim (K.add s.next g) Γ.own (({ s with obs := del s.obs i } : St).add (.vec e 1 (rows ++ zdK l))) a w' from
  hK _ _ _ _ hin' (hsim.put (St.zdW (s := { s with obs := del s.obs i }) (by cases dst <;> simp_all [zat])) (.vec _ _ _ (by simp [Kr.add]))) hk
 refine ⟨?_, hs.defers, hs.size, fun x d hx => ⟨(hs.env x d hx).1, (hs.env x d hx).2.mono hle⟩, fun i hi => ?_⟩
 ·refine hd.add hnext (fun b e => ?_) (fun b hb => ?_) ⟨xs ++ strCells ⟨l.toArray⟩, ?_, Nat.one_pos, ?_, ?_⟩
  ·rw [hgv] at e;rcases hob with ho | ⟨b', hb', ho⟩
   ·rw [ho] at e;exact ⟨(hno b e).1, (hno b e).2, hnb b e⟩
   ·rw [ho] at e;simp only [Option.some.injEq] at e;subst e;refine ⟨hin.own_of_ge hb', fun o => ?_, fun hb => absurd (hd.lt hb) (by omega)⟩;cases hm : K.mem b' o with
    | none => rfl
    | some v => exact absurd (hs.sat.memLt hm) (by omega)
  ·refine hold b (hb.elim hd.lt fun ⟨_, _, e⟩ => hs.sat.memLt e) fun e => ?_;rcases hb with hb | ⟨o, v, hm⟩
   ·exact hnb b e hb
   ·have := (hno b e).2 o;rw [hm] at this;cases this
  ·have e1 : (rows ++ zdK l).length = rows.length + l.length := by rw [List.length_append, zgM]
   rw [e1];exact hown
  ·intro r hr;rcases List.mem_append.1 hr with hr | hr
   ·exact hlen r hr
   ·rw [zdv] at hr;obtain ⟨c, _, rfl⟩ := List.mem_map.1 hr
    try rfl
  ·have hnews : ∀ i r, (zdK l)[i]? = some r -> ∀ j d, r[j]? = some d -> zdF (K.add s.next g) d ((strCells ⟨l.toArray⟩).getD (i * 1 + j) undef) := fun i r hi j d hj => by
    rw [zdv, List.getElem?_map] at hi;cases hc : l[i]? with
    | none => rw [hc] at hi; cases hi
    | some c =>
     rw [hc] at hi;cases hi
     match j, hj with
     | 0, hj =>
      cases hj;have : (strCells ⟨l.toArray⟩).getD (i * 1 + 0) undef = .int .u8 c.toNat := by
       rw [List.getD_eq_getElem?_getD, Nat.mul_one, Nat.add_zero, hcell, hc]; rfl
      rw [this];exact ⟨rfl, .u _ _ (.int _ _)⟩
   exact rows_append (by simpa using hrow.1) hlen (fun i r hi j d hj => ⟨(hcs i r hi j d hj).1, (hcs i r hi j d hj).2.mono hle⟩) hnews
 ·have hi' : s.next + 1 <= i := hi
  simp only [Kr.add];rw [if_neg (by omega)];exact hs.hdr i (by omega)
theorem zlC {P : Program} {Γ : Ctx} {s : St} {k : St -> Prop} {dst : Option Tmp} {x y : Operand} {t u : TypeId} {rest : List O1}
  (h : zgk P t u (opd s x) (opd s y) s dst fun s' => H P Γ rest s' k) : H P Γ (⟨dst, .call { callee := .builtin .append, args := #[x, y], argTypes := #[t, u] }, none⟩ :: rest) s k := by
 intro all ops e;obtain ⟨o, ops', rfl, hx, hr⟩ := zdo e;obtain ⟨dst', op, type, pos, after, guard⟩ := o;unfold zcH at hx;simp only at hx;cases guard with
 | none =>
  simp at hx;obtain ⟨rfl, rfl⟩ := hx;exact zsp ((Eff.ztY (o := { dst := dst', op := _, type, pos, after, guard := none }) rfl h).mono fun s' h => h all ops' hr)
 | some g =>
  obtain ⟨j, b⟩ := g;simp only at hx;split at hx <;> simp at hx
theorem Eff.zuQ {P Γ o s k t} (ho : o.op = .alloc t) (hz : ze6 P t = some [.pointer none, .slice none 0 0]) (hp : zat o.dst s) (hk : k ((s.add (.nw t)).put o.dst (.ptr s.next 0))) : Eff P Γ o s k := by
 intro K a w hin hs Kont Q hK;obtain ⟨v, hv, hc, hone⟩ := zgr hz;obtain ⟨h1, h2⟩ := Sim.alloc hin hs (.cells v.cells t) 0 (.nw t) ⟨w.heap.size, rfl, by rw [heap_alloc_new, hc]⟩;have hrun : (execOp a.eval o).run P w = .ok (.value (.pointer (some ⟨w.heap.size, 0, none⟩))) (w.alloc (.cells v.cells t)) := by
  obtain ⟨dst, op, type, pos, after, guard⟩ := o;simp only at ho;subst ho;simp [execOp, Instr.alloc, hv, newVar, newRow]
 unfold Oper.wp;rw [hrun];refine hK _ _ _ _ h1 (h2.put (by cases hd : o.dst <;> simp_all [zat, St.add]) (.ptr _ _ w.heap.size 0 (by simp [Kr.add]))) hk
theorem zsk {P : Program} {Γ : Ctx} {s : St} {k : St -> Prop} {dst : Option Tmp} {t : TypeId} {rest : List O1}
  (hz : ze6 P t = some [.pointer none, .slice none 0 0]) (hp : zat dst s) (h : H P Γ rest ((s.add (.nw t)).put dst (.ptr s.next 0)) k) : H P Γ (⟨dst, .alloc t, none⟩ :: rest) s k := by
 intro all ops e;obtain ⟨o, ops', rfl, hx, hr⟩ := zdo e;obtain ⟨dst', op, type, pos, after, guard⟩ := o;unfold zcH at hx;simp only at hx;cases guard with
 | none =>
  simp at hx;obtain ⟨rfl, rfl⟩ := hx;exact zsp ((Eff.zuQ (k := fun s' => H P Γ rest s' k) (o := { dst := dst', op := _, type, pos, after, guard := none }) rfl hz hp h).mono fun s' h => h all ops' hr)
 | some g =>
  obtain ⟨j, b⟩ := g;simp only at hx;split at hx <;> simp at hx
end Go.VL
namespace Go.VL
open Go Go.Lib
theorem Eff.zvC {P Γ o s k} {src dst e : TypeId} {x : Operand} {i : Nat} {l : List UInt8} (ho : o.op = .convert src dst x) (hsrc : P.underlying src = some (.slice e)) (he : P.underlying e = some (.int .u8)) (hdst : P.underlying dst = some .string)
  (hx : opd s x = .vec i l.length) (hg : getK s.obs i = some (.vec e 1 (zdK l))) (hl : l ≠ []) (hp : zat o.dst s) (hk : k (s.put o.dst (.u (.str l)))) : Eff P Γ o s k := by
 intro K a w hin hs Kont Q hK;have hxr := zaF hs x;rw [hx] at hxr;obtain ⟨gi, hgi, hxv⟩ := zeg hxr;obtain ⟨g2, xs, hg2, hrow, hpos, hlen, hcs, hno⟩ := (hs.sat.ob _ _ hg).vec;rw [hgi] at hg2;simp only [Option.some.injEq] at hg2;subst hg2;rw [zgM] at hrow;have hl0 : 0 < l.length := by cases l with | nil => exact absurd rfl hl | cons => simp
 have hxl : xs.length = l.length := by simpa using hrow.1
 rcases hrow.2 with ⟨_, h0⟩ | ⟨g, cap, cur, hv, _, _, _, _, _, _⟩
 ·omega
 have hcell : ∀ j (hj : j < l.length), w.cell? ((⟨g, 0, none⟩ : Addr).add j) = some (.int .u8 (l[j].toNat : Int)) := by
  intro j hj;have h1 : xs[j]? = some (.int .u8 (l[j].toNat : Int)) := by
   have h2 := (hcs j [.u (.int .u8 l[j].toNat)] (by rw [zdv, List.getElem?_map, List.getElem?_eq_getElem hj]; rfl) 0 _ rfl).2;have h3 := zbw h2;rw [Nat.mul_one, Nat.add_zero, List.getD_eq_getElem?_getD] at h3;cases hc : xs[j]? with
   | none => rw [List.getElem?_eq_none_iff] at hc; omega
   | some y => rw [hc] at h3; exact congrArg some h3
  exact World.ownsRow.cells hrow (g := g) (by rw [hv]; rfl) j _ h1
 have hrun0 := run_convert_bytes_back (P := P) w src dst e ⟨g, 0, none⟩ cap l hsrc he hdst hcell;have hrun : (execOp a.eval o).run P w = .ok (.value (.string ⟨l.toArray⟩)) w := by
  obtain ⟨dst, op, type, pos, after, guard⟩ := o;simp only at ho;subst ho;rw [hv] at hxv;simp [execOp, resolve, hxv, hrun0]
 unfold Oper.wp;rw [hrun];exact hK _ _ _ _ hin (hs.put hp (.u _ _ (.str _))) hk
theorem zqx {P : Program} {Γ : Ctx} {s : St} {k : St -> Prop} {d : Option Tmp} {src dst : TypeId} {x : Operand} {rest : List O1} {e : TypeId} {i : Nat} (l : List UInt8) (hsrc : P.underlying src = some (.slice e)) (he : P.underlying e = some (.int .u8)) (hdst : P.underlying dst = some .string)
  (hx : opd s x = .vec i l.length) (hg : getK s.obs i = some (.vec e 1 (zdK l))) (hl : l ≠ []) (hp : zat d s)
  (h : H P Γ rest (s.put d (.u (.str l))) k) : H P Γ (⟨d, .convert src dst x, none⟩ :: rest) s k := by
 intro all ops e;obtain ⟨o, ops', rfl, hx', hr⟩ := zdo e;obtain ⟨dst', op, type, pos, after, guard⟩ := o;unfold zcH at hx';simp only at hx';cases guard with
 | none =>
  simp at hx';obtain ⟨rfl, rfl⟩ := hx';exact zsp ((Eff.zvC (k := fun s' => H P Γ rest s' k) (o := { dst := dst', op := _, type, pos, after, guard := none }) rfl hsrc he hdst hx hg hl hp h).mono fun s' h => h all ops' hr)
 | some g =>
  obtain ⟨j, b⟩ := g;simp only at hx';split at hx' <;> simp at hx'
end Go.VL
