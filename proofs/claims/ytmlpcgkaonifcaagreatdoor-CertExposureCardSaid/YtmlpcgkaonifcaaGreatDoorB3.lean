import Derived.Test.YtmlpcgkaonifcaaGreatDoorB2
import Derived.Recover
import Derived.LaidMore
import Derived.LaidLaws
import Derived.LaidHandle
import Derived.MakeChecks
import Derived.Stop.Joined
import Derived.OpenShut
import Derived.Test.YtmlpcgkaonifcaaGreatDoorRows
import Derived.Shelf.Sort.Plain
import Derived.Shelf.Bits.Mul64
import Derived.Shelf.Slices.Reverse
import Derived.Ground.Names2Prog
import Derived.Shelf.Slices.CompactI
import Derived.Shelf.Slices.Cells
import Derived.Shelf.Slices.In.SortNone
import Derived.Test.YtmlpcgkaonifcaaGreatDoorProg
set_option linter.all false
set_option maxRecDepth 100000
set_option maxHeartbeats 8000000
namespace Go.VL
open Go
inductive Out where
 | val (d : D)
 | pan (ch : List PanicEntry)
def zuP (k : Kr) (e : Ending) : Out -> Prop
 | .val d => ∃ v, e = .returned v /\ Rep k d v
 | .pan ch => e = .panicked ch
def RetX (P : Program) (f : FuncId) (ds : List D) (obs : List (Nat × Ob)) (nx : Nat) (post : Out -> List (Nat × Ob) -> Nat -> Prop) : Prop :=
 ∀ (k : Kr) (own : Nat -> Prop) (w : World) (vs : Array Value), Sat k own obs w -> (∀ i, nx <= i -> k.hdr i = none) -> (∀ b, w.heap.size <= b -> own b) -> RepL k ds vs ->
  Calls P f vs w fun e w' => ∃ r obs' nx' k', zuP k' e r /\ In (.of own k nx w) k' w' /\ Sat k' own obs' w' /\ (∀ i, nx' <= i -> k'.hdr i = none) /\ nx <= nx' /\ post r obs' nx'
theorem Ret.x {P f ds obs nx post} (h : Ret P f ds obs nx post) : RetX P f ds obs nx fun r o n => match r with | .val d => post d o n | .pan _ => False :=
 fun k own w vs h1 h2 h3 h4 => (h k own w vs h1 h2 h3 h4).mono fun _ _ ⟨v, d, o, n, k', e, a, b, c, g, r, hp⟩ => ⟨.val d, o, n, k', ⟨v, e, r⟩, a, b, c, g, hp⟩
theorem RetX.mono {P f ds obs nx} {p q : Out -> List (Nat × Ob) -> Nat -> Prop} (h : RetX P f ds obs nx p) (hq : ∀ r o n, p r o n -> q r o n) : RetX P f ds obs nx q :=
 fun k own w vs h1 h2 h3 h4 => (h k own w vs h1 h2 h3 h4).mono fun _ _ ⟨r, o, n, k', e, a, b, c, g, hp⟩ => ⟨r, o, n, k', e, a, b, c, g, hq _ _ _ hp⟩
theorem RetX.ret {P f ds obs nx} {p : Out -> List (Nat × Ob) -> Nat -> Prop} {q : D -> List (Nat × Ob) -> Nat -> Prop} (h : RetX P f ds obs nx p) (hv : ∀ d o n, p (.val d) o n -> q d o n) (hx : ∀ ch o n, ¬ p (.pan ch) o n) : Ret P f ds obs nx q :=
 fun k own w vs h1 h2 h3 h4 => (h k own w vs h1 h2 h3 h4).mono fun _ _ ⟨r, o, n, k', e, a, b, c, g, hp⟩ => by
  cases r with
  | val d =>
   obtain ⟨v, e, hr⟩ := e;exact ⟨v, d, o, n, k', e, a, b, c, g, hr, hv d o n hp⟩
  | pan ch => exact absurd hp (hx ch o n)
theorem RetX.congr {P f ds obs obs' nx post} (h : RetX P f ds obs nx post) (e : ∀ i, getK obs' i = getK obs i) : RetX P f ds obs' nx post :=
 fun k own w vs hsat hhdr hfresh hrep => h k own w vs (Sat.congr hsat fun i => (e i).symm) hhdr hfresh hrep
theorem zl0 {k k' : Kr} {own : Nat -> Prop} {obs F o1 : List (Nat × Ob)} {nx : Nat} {w w' : World} (hsat : Sat k own (F ++ obs) w)
  (hin : In (.of (fun b => own b /\ ¬ Blk k F b) k nx w) k' w') (hs1 : Sat k' (fun b => own b /\ ¬ Blk k F b) o1 w') : Sat k' own (F ++ o1) w' := by
 have hfo : ∀ i ob, getK F i = some ob -> getK (F ++ obs) i = some ob := fun i ob hi => by rw [zab, hi]
 have hFat : ∀ i ob, getK F i = some ob -> ∃ g, k.hdr i = some g /\ k'.hdr i = some g /\ (∀ b, g.1 = some b -> own b /\ (∀ o, k'.mem b o = none) /\ Blk k F b) /\ ObAt k' w' g ob := fun i ob hi => by
  obtain ⟨g, h1, h2, h3⟩ := hsat.ob i ob (hfo i ob hi);have hB : ∀ b, g.1 = some b -> Blk k F b := fun b hb => ⟨i, ob, g, hi, h1, hb⟩;refine ⟨g, h1, hin.le.hdr i g h1, fun b hb => ⟨(h2 b hb).1, fun o => ?_, hB b hb⟩, h3.keep hin.le fun b hb => hin.block b fun hb' => hb'.2 (hB b hb)⟩;cases hm : k'.mem b o with
  | none => rfl
  | some x =>
   rcases hin.memNew b o x hm with h4 | h4
   ·simp_all
   ·exact absurd (hB b hb) h4.2
 refine ⟨hs1.mem, fun i ob hi => ?_, fun i j x y g g' b hx hy hij hg hg' hb => ?_⟩
 ·rw [zab] at hi;cases hf : getK F i with
  | some x =>
   rw [hf] at hi;cases hi;obtain ⟨g, _, h2, h3, h4⟩ := hFat i _ hf;exact ⟨g, h2, fun b hb => ⟨(h3 b hb).1, (h3 b hb).2.1⟩, h4⟩
  | none =>
   rw [hf] at hi;obtain ⟨g, h1, h2, h3⟩ := hs1.ob i ob hi;exact ⟨g, h1, fun b hb => ⟨(h2 b hb).1.1, (h2 b hb).2⟩, h3⟩
 ·rw [zab] at hx hy;cases hfx : getK F i with
  | some x' =>
   obtain ⟨g1, k1, k2, k3, _⟩ := hFat i _ hfx;rw [hg] at k2;cases k2;cases hfy : getK F j with
   | some y' =>
    obtain ⟨g2, l1, l2, l3, _⟩ := hFat j _ hfy;rw [hg'] at l2;cases l2;exact hsat.apart i j x' y' g g' b (hfo i _ hfx) (hfo j _ hfy) hij k1 l1 hb
   | none =>
    rw [hfy] at hy;obtain ⟨g2, l1, l2, _⟩ := hs1.ob j y hy;rw [hg'] at l1;cases l1;exact fun e => (l2 b e).1.2 (k3 b hb).2.2
  | none =>
   rw [hfx] at hx;cases hfy : getK F j with
   | some y' =>
    obtain ⟨g2, l1, l2, l3, _⟩ := hFat j _ hfy;rw [hg'] at l2;cases l2;obtain ⟨g1, k1, k2, _⟩ := hs1.ob i x hx;rw [hg] at k1;cases k1;exact fun e => (k2 b hb).1.2 (l3 b e).2.2
   | none =>
    rw [hfy] at hy;exact hs1.apart i j x y g g' b hx hy hij hg hg' hb
theorem zjZ {k : Kr} {own : Nat -> Prop} {obs F : List (Nat × Ob)} {w : World} (hF : ∀ i ob, getK F i = some ob -> getK obs i = none) (hsat : Sat k own (F ++ obs) w) : Sat k (fun b => own b /\ ¬ Blk k F b) obs w := by
 have hob : ∀ i ob, getK obs i = some ob -> getK F i = none /\ getK (F ++ obs) i = some ob := fun i ob hi => by
  have hn : getK F i = none := by
   cases hf : getK F i with
   | none => rfl
   | some x => rw [hF i x hf] at hi; cases hi
  exact ⟨hn, by rw [zab, hn]; exact hi⟩
 have hfo : ∀ i ob, getK F i = some ob -> getK (F ++ obs) i = some ob := fun i ob hi => by rw [zab, hi]
 refine ⟨hsat.mem, fun i ob hi => ?_, fun i j x y g g' b hx hy hij => ?_⟩
 ·obtain ⟨hn, hi'⟩ := hob i ob hi;obtain ⟨g, h1, h2, h3⟩ := hsat.ob i ob hi';refine ⟨g, h1, fun b hb => ⟨⟨(h2 b hb).1, ?_⟩, (h2 b hb).2⟩, h3⟩;rintro ⟨j, oj, g', h4, h5, h6⟩;exact hsat.apart i j ob oj g g' b hi' (hfo j oj h4) (fun e => by subst e; rw [hn] at h4; cases h4) h1 h5 hb h6
 ·exact hsat.apart i j x y g g' b (hob i x hx).2 (hob j y hy).2 hij
theorem ziQ {k : Kr} {own : Nat -> Prop} {obs F : List (Nat × Ob)} {w : World} (hsat : Sat k own (F ++ obs) w) (hfresh : ∀ b, w.heap.size <= b -> own b) : ∀ b, w.heap.size <= b -> own b /\ ¬ Blk k F b := fun b hb => by
 refine ⟨hfresh b hb, fun hB => ?_⟩;obtain ⟨i, ob, g, h1, h2, h3⟩ := hB;exact absurd (hsat.lt ⟨i, ob, g, by rw [zab, h1], h2, h3⟩) (by omega)
theorem zn9 {k k' : Kr} {own : Nat -> Prop} {F : List (Nat × Ob)} {nx : Nat} {w w' : World} (hfresh : ∀ b, w.heap.size <= b -> own b) (hin : In (.of (fun b => own b /\ ¬ Blk k F b) k nx w) k' w') : In (.of own k nx w) k' w' :=
 ⟨hin.le, hin.none0, fun b o x hx => (hin.memNew b o x hx).imp id (·.1), hfresh, hin.os, hin.tape, hin.output, hin.size, fun b hb => hin.block b fun hb' => hb hb'.1⟩
theorem RetX.frame {P f ds obs nx post} (F : List (Nat × Ob)) (hF : ∀ i ob, getK F i = some ob -> getK obs i = none) (h : RetX P f ds obs nx post) :
  RetX P f ds (F ++ obs) nx (fun r o n => ∃ o1, o = F ++ o1 /\ post r o1 n) := by
 intro k own w vs hsat hhdr hfresh hrep;refine (h k _ w vs (zjZ hF hsat) hhdr (ziQ hsat hfresh) hrep).mono ?_;rintro e w' ⟨r, o1, n', k', he, hin, hs1, hh1, hle, hp⟩;exact ⟨r, F ++ o1, n', k', he, zn9 hfresh hin, zl0 hsat hin hs1, hh1, hle, o1, rfl, hp⟩
theorem EffP.zyf {P Γ s k} {fop : Operand} {args : Array Operand} {ts : Array TypeId} {ty : TypeId} {f caps dst pos after} {ds : List D} {post : Out -> List (Nat × Ob) -> Nat -> Prop}
  (hf : zam (opd s fop) = some (f, caps)) (hc : zae P f = true) (hds : args.toList.map (opd s) ++ caps = ds) (hret : RetX P f ds s.obs s.next post) (hp : zay dst s)
  (hk : ∀ d obs' nx', s.next <= nx' -> post (.val d) obs' nx' -> k (({ s with obs := obs', next := nx' } : St).put dst d))
  (hx : ∀ ch obs' nx', s.next <= nx' -> post (.pan ch) obs' nx' -> ∃ s2, Wk Γ { s with obs := obs', next := nx' } s2 /\ Γ.pan ch s2) :
  EffP P Γ { dst, op := .call { callee := .value fop, args, argTypes := ts }, type := ty, pos, after, guard := none } s k := by
 intro K a w hin hs Kont Q hK hP;obtain ⟨vs, hrep, hrun⟩ := zh8 hs (args := args) (ts := ts) (ty := ty) hf hc dst pos after none;rw [hds] at hrep;unfold Oper.wp;rw [hrun];refine Calls.mono (hret K Γ.own w vs hs.sat hs.hdr (fun b hb => hin.own_of_ge hb) hrep) ?_;rintro e w' ⟨r, obs', nx', k', hr, hin', hsat', hhdr', hnx, hpost⟩;have hle : K.le k' := hin'.le;have hin2 : In Γ k' w' := hin.step hle (fun b o v e => hin'.memNew b o v e) hin'.os hin'.tape hin'.output hin'.size hin'.block;have hsim : Sim k' Γ.own ({ s with obs := obs', next := nx' } : St) a w' := ⟨hsat', hs.defers, hs.size, fun x d hx => ⟨(hs.env x d hx).1, (hs.env x d hx).2.mono hle⟩, hhdr'⟩;cases r with
 | val d =>
  obtain ⟨v, rfl, hr⟩ := hr;exact hK k' _ w' _ hin2 (hsim.put (by cases dst <;> simp_all [zay]) hr) (hk d obs' nx' hnx hpost)
 | pan ch =>
  obtain rfl := hr;obtain ⟨s2, hw, hpn⟩ := hx ch obs' nx' hnx hpost;obtain ⟨k2, g1, g2⟩ := hw k' a w' hin2 hsim;exact hP ch k2 a w' s2 g1 g2 hpn
theorem CallP.x_ {P : Program} {Γ : Ctx} {s : St} {k : St -> Prop} {dst : Option Tmp} {fop : Operand} {args : List Operand} {f caps} {ds : List D} {post : Out -> List (Nat × Ob) -> Nat -> Prop} (hret : RetX P f ds s.obs s.next post)
  (hf : zam (opd s fop) = some (f, caps)) (hc : zae P f = true) (hds : args.map (opd s) ++ caps = ds) (hp : zay dst s)
  (hk : ∀ d obs' nx', s.next <= nx' -> post (.val d) obs' nx' -> k (({ s with obs := obs', next := nx' } : St).put dst d))
  (hx : ∀ ch obs' nx', s.next <= nx' -> post (.pan ch) obs' nx' -> ∃ s2, Wk Γ { s with obs := obs', next := nx' } s2 /\ Γ.pan ch s2) : CallP P Γ fop args dst s k :=
 fun _ _ _ _ => EffP.zyf hf hc hds hret hp hk hx
theorem CallP.xF {P : Program} {Γ : Ctx} {s : St} {k : St -> Prop} {dst : Option Tmp} {fop : Operand} {args : List Operand} {f caps} {ds : List D} {post : Out -> List (Nat × Ob) -> Nat -> Prop} (F obs : List (Nat × Ob)) (hret : RetX P f ds obs s.next post)
  (heq : ∀ i, getK s.obs i = getK (F ++ obs) i) (hF : ∀ i ob, getK F i = some ob -> getK obs i = none)
  (hf : zam (opd s fop) = some (f, caps)) (hc : zae P f = true) (hds : args.map (opd s) ++ caps = ds) (hp : zay dst s)
  (hk : ∀ d o1 nx', s.next <= nx' -> post (.val d) o1 nx' -> k (({ s with obs := F ++ o1, next := nx' } : St).put dst d))
  (hx : ∀ ch o1 nx', s.next <= nx' -> post (.pan ch) o1 nx' -> ∃ s2, Wk Γ { s with obs := F ++ o1, next := nx' } s2 /\ Γ.pan ch s2) : CallP P Γ fop args dst s k :=
 CallP.x_ ((hret.frame F hF).congr heq) hf hc hds hp (fun d o n hn ⟨o1, ho, hpo⟩ => by subst ho; exact hk d o1 n hn hpo) (fun ch o n hn ⟨o1, ho, hpo⟩ => by subst ho; exact hx ch o1 n hn hpo)
theorem CallP.x0 {P : Program} {Γ : Ctx} {s : St} {k : St -> Prop} {dst : Option Tmp} {fop : Operand} {args : List Operand} {f caps} {ds : List D} {post : Out -> List (Nat × Ob) -> Nat -> Prop} (hret : RetX P f ds [] s.next post)
  (hf : zam (opd s fop) = some (f, caps)) (hc : zae P f = true) (hds : args.map (opd s) ++ caps = ds) (hp : zay dst s)
  (hk : ∀ d o1 nx', s.next <= nx' -> post (.val d) o1 nx' -> k (({ s with obs := s.obs ++ o1, next := nx' } : St).put dst d))
  (hx : ∀ ch o1 nx', s.next <= nx' -> post (.pan ch) o1 nx' -> ∃ s2, Wk Γ { s with obs := s.obs ++ o1, next := nx' } s2 /\ Γ.pan ch s2) : CallP P Γ fop args dst s k :=
 CallP.xF s.obs [] hret (fun i => by simp) (fun i ob _ => rfl) hf hc hds hp hk hx
theorem CallP.x1 {P : Program} {Γ : Ctx} {s : St} {k : St -> Prop} {dst : Option Tmp} {fop : Operand} {args : List Operand} {f caps} {ds : List D} {post : Out -> List (Nat × Ob) -> Nat -> Prop} {j : Nat} {ob : Ob} (hret : RetX P f ds [(j, ob)] s.next post)
  (hj : getK s.obs j = some ob) (hf : zam (opd s fop) = some (f, caps)) (hc : zae P f = true) (hds : args.map (opd s) ++ caps = ds) (hp : zay dst s)
  (hk : ∀ d o1 nx', s.next <= nx' -> post (.val d) o1 nx' -> k (({ s with obs := del s.obs j ++ o1, next := nx' } : St).put dst d))
  (hx : ∀ ch o1 nx', s.next <= nx' -> post (.pan ch) o1 nx' -> ∃ s2, Wk Γ { s with obs := del s.obs j ++ o1, next := nx' } s2 /\ Γ.pan ch s2) : CallP P Γ fop args dst s k :=
 CallP.xF (del s.obs j) [(j, ob)] hret (fun i => by
  rw [zab, zac];by_cases h : i = j
  ·subst h; simp [hj, getK]
  ·simp only [if_neg h, getK];cases getK s.obs i <;> rfl) (fun i o hi => by
  rw [zac] at hi;by_cases h : i = j
  ·rw [if_pos h] at hi; cases hi
  ·simp [getK, h]) hf hc hds hp hk hx
theorem CallP.ok1 {P : Program} {Γ : Ctx} {s : St} {k : St -> Prop} {dst : Option Tmp} {fop : Operand} {args : List Operand} {f caps} {ds : List D} {j : Nat} {ob ob' : Ob} {d : D}
  (hret : RetX P f ds [(j, ob)] s.next fun r o n => r = .val d /\ o = [(j, ob')] /\ n = s.next)
  (hj : getK s.obs j = some ob) (hf : zam (opd s fop) = some (f, caps)) (hc : zae P f = true) (hds : args.map (opd s) ++ caps = ds) (hp : zay dst s)
  (hk : k (({ s with obs := del s.obs j ++ [(j, ob')], next := s.next } : St).put dst d)) : CallP P Γ fop args dst s k :=
 CallP.x1 hret hj hf hc hds hp (fun d' o1 nx' _ ⟨h1, h2, h3⟩ => by cases h1; subst h2; subst h3; exact hk) (fun ch o1 nx' _ ⟨h1, _⟩ => by cases h1)
theorem CallP.zgg {P : Program} {Γ : Ctx} {s : St} {k : St -> Prop} {dst : Option Tmp} {fop : Operand} {args : List Operand} {f caps} {ds : List D} {j : Nat} {ob : Ob} {ch : List PanicEntry} {p : Ob -> Prop}
  (hret : RetX P f ds [(j, ob)] s.next fun r o n => r = .pan ch /\ (∃ ob', p ob' /\ o = [(j, ob')]) /\ n = s.next)
  (hj : getK s.obs j = some ob) (hf : zam (opd s fop) = some (f, caps)) (hc : zae P f = true) (hds : args.map (opd s) ++ caps = ds) (hp : zay dst s)
  (hx : ∀ ob', p ob' -> ∃ s2, Wk Γ { s with obs := del s.obs j ++ [(j, ob')], next := s.next } s2 /\ Γ.pan ch s2) : CallP P Γ fop args dst s k :=
 CallP.x1 hret hj hf hc hds hp (fun d' o1 nx' _ ⟨h1, _⟩ => by cases h1) (fun ch' o1 nx' _ ⟨h1, ⟨ob', h2, h3⟩, h4⟩ => by cases h1; subst h3; subst h4; exact hx ob' h2)
theorem CallP.x2 {P : Program} {Γ : Ctx} {s : St} {k : St -> Prop} {dst : Option Tmp} {fop : Operand} {args : List Operand} {f caps} {ds : List D} {post : Out -> List (Nat × Ob) -> Nat -> Prop} {j q : Nat} {ob oq : Ob} (hret : RetX P f ds [(j, ob), (q, oq)] s.next post)
  (hj : getK s.obs j = some ob) (hq : getK s.obs q = some oq) (hne : j ≠ q) (hf : zam (opd s fop) = some (f, caps)) (hc : zae P f = true) (hds : args.map (opd s) ++ caps = ds) (hp : zay dst s)
  (hk : ∀ d o1 nx', s.next <= nx' -> post (.val d) o1 nx' -> k (({ s with obs := del (del s.obs j) q ++ o1, next := nx' } : St).put dst d))
  (hx : ∀ ch o1 nx', s.next <= nx' -> post (.pan ch) o1 nx' -> ∃ s2, Wk Γ { s with obs := del (del s.obs j) q ++ o1, next := nx' } s2 /\ Γ.pan ch s2) : CallP P Γ fop args dst s k :=
 CallP.xF (del (del s.obs j) q) [(j, ob), (q, oq)] hret (fun i => by
  rw [zab, zac, zac];by_cases h : i = q
  ·simp_all [getK, Ne.symm]
  ·rw [if_neg h];by_cases h2 : i = j
   ·subst h2; simp [hj, getK]
   ·simp only [if_neg h2, getK, if_neg h];cases getK s.obs i <;> rfl) (fun i o hi => by
  rw [zac, zac] at hi;by_cases h : i = q
  ·rw [if_pos h] at hi; cases hi
  ·rw [if_neg h] at hi;by_cases h2 : i = j
   ·rw [if_pos h2] at hi; cases hi
   ·simp [getK, h, h2]) hf hc hds hp hk hx
def Ctx.base (Γ : Ctx) : Ctx := .of Γ.own.own Γ.k0 Γ.n0 Γ.w0
def PanG (Γ : Ctx) (post : Out -> List (Nat × Ob) -> Nat -> Prop) (ch : List PanicEntry) (s : St) : Prop := ∃ s', Wk Γ s s' /\ Γ.n0 <= s'.next /\ post (.pan ch) s'.obs s'.next
def RX (Γ : Ctx) (post : Out -> List (Nat × Ob) -> Nat -> Prop) (e : Ending) (w' : World) : Prop :=
 ∃ r obs' nx' k', zuP k' e r /\ In Γ k' w' /\ Sat k' Γ.own obs' w' /\ (∀ i, nx' <= i -> k'.hdr i = none) /\ Γ.n0 <= nx' /\ post r obs' nx'
theorem zfK {P Γ fn e s K a w} {post : Out -> List (Nat × Ob) -> Nat -> Prop} (hend : EndW P Γ fn Γ.n0 (fun d o n => post (.val d) o n) e s) (hin : In Γ K w) (hs : Sim K Γ.own s a w) :
  ∃ v, (results fn a.tmps).run P w = .ok v w /\ RX Γ post (.returned v) w := by
 obtain ⟨s', hw, _, hres⟩ := hend;obtain ⟨K', hin, hs⟩ := hw K a w hin hs;obtain ⟨rs, rv, hfin, hrun, hlen, hr⟩ := zh2 hs _ _ hres;have hres' : (results fn a.tmps).run P w = .ok (if h : rv.toArray.size = 1 then rv.toArray[0] else .tuple rv.toArray) w := by
  unfold results;rw [Array.mapM_eq_mapM_toList];have e : (fn.results.toList.mapM fun (x : ResultVar) => match x with | .tmp t => (pure (a.tmps.getD t undef) : Sem Value) | .cell x t => do loadVar t (<- asAddr (a.tmps.getD x undef))).run P w = .ok rv w := hrun;simp only [Sem.run_bind, Sem.run_map, Result.andThen_ok]
  erw [e]
  simp
 have hrepv : Rep K' (zaC rs) (if h : rv.toArray.size = 1 then rv.toArray[0] else .tuple rv.toArray) := by
  match rs, rv, hlen, hr with
  | [], [], _, hr => exact .tup [] [] rfl (by simp)
  | [d], [v], _, hr => simpa [zaC] using hr 0 d rfl
  | d :: d1 :: ds, v :: v1 :: vs, hlen, hr =>
   simp only [zaC];rw [dif_neg (by simp)];exact .tup _ _ hlen hr
 refine ⟨_, hres', ?_⟩;rcases hfin with ⟨s2, ρ, d', hle, hd, hu, hnx, hpost⟩ | ⟨hnx, hpost⟩
 ·obtain ⟨h1, h2⟩ := Sim.weak hin hs hle;exact ⟨.val d', s2.obs, s2.next, _, ⟨_, rfl, hrepv.weak hd hu⟩, h1, h2.sat, h2.hdr, hnx, hpost⟩
 ·exact ⟨.val _, s'.obs, s'.next, K', ⟨_, rfl, hrepv⟩, hin, hs.sat, hs.hdr, hnx, hpost⟩
theorem RX.conv {Γ Γ' : Ctx} {post e w'} (h : RX Γ post e w') (h1 : Γ'.own.own = Γ.own.own) (h2 : Γ'.k0 = Γ.k0) (h3 : Γ'.n0 = Γ.n0) (h4 : Γ'.w0 = Γ.w0) : RX Γ' post e w' := by
 obtain ⟨r, o, n, k', a, b, c, d, e, f⟩ := h;exact ⟨r, o, n, k', a, b.conv h1 h2 h3 h4, by rw [h1]; exact c, d, by rw [h3]; exact e, f⟩
theorem Wk.conv {Γ Γ' : Ctx} {s s'} (h : Wk Γ s s') (h1 : Γ'.own = Γ.own) (h2 : Γ'.k0 = Γ.k0) (h3 : Γ'.n0 = Γ.n0) (h4 : Γ'.w0 = Γ.w0) : Wk Γ' s s' := fun K a w hin hs => by
 obtain ⟨K', g1, g2⟩ := h K a w (hin.conv (by rw [h1]) h2.symm h3.symm h4.symm) (by rw [<- h1]; exact hs);exact ⟨K', g1.conv (by rw [h1]) h2 h3 h4, by rw [h1]; exact g2⟩
theorem RetX.zf7 {P f fn c ds obs nx post} (hf : P.funcs[f]? = some fn) (hb : fn.body = some c) (hn : ds.length <= fn.ntmps)
  (h : ∀ Γ : Ctx, Γ.n0 = nx -> Γ.own.dfr = [] -> (∀ ch s, PanG Γ post ch s -> Γ.pan ch s) -> (∀ e a w', bodyPostD P fn (RX Γ.base post) e a w' -> Γ.esc e a w') -> V P Γ c (entry ds fn.ntmps obs nx) (zbf P Γ (EndW P Γ fn nx fun d o n => post (.val d) o n) .done)) : RetX P f ds obs nx post := by
 intro k own w vs hsat hhdr hfresh hrep;have hsz : vs.size = ds.length := hrep.1
 let Γ0 : Ctx := .of own k nx w
 let Γ : Ctx := ⟨⟨own, []⟩, k, nx, w, PanG Γ0 post, bodyPostD P fn (RX Γ0 post)⟩
 have hpan : ∀ ch s, PanG Γ post ch s -> Γ.pan ch s := fun ch s ⟨s', h1, h2, h3⟩ => ⟨s', h1.conv rfl rfl rfl rfl, h2, h3⟩;have hR : ∀ e w', RX Γ post e w' -> RX Γ0 post e w' := fun e w' h => h.conv rfl rfl rfl rfl;have hesc : ∀ e a w', bodyPostD P fn (RX Γ.base post) e a w' -> Γ.esc e a w' := fun e a w' h => h;refine calls_of_wp_defers (R := RX Γ0 post) hf hb (wp_mono (h Γ rfl rfl hpan hesc k _ w ⟨.refl _, hhdr, fun b o v e => .inl e, hfresh, rfl, rfl, rfl, Nat.le_refl _, fun _ _ => rfl⟩
  ⟨hsat, rfl, ?_, fun x d hx => ?_, hhdr⟩) ?_)
 ·simp [entry, hsz]; omega
 ·simp only [entry, zgy, Nat.zero_le, if_true, Nat.sub_zero] at hx;have hlt := (List.getElem?_eq_some_iff.1 hx).1;refine ⟨by simp [entry]; omega, ?_⟩;have := hrep.2 x d hx;have e : (vs ++ Array.replicate (fn.ntmps - vs.size) undef).getD x undef = vs.getD x undef := by simp_all [Array.getElem?_append]
  rw [e];exact this
 ·rintro e a' w' (⟨K', s', hin, hs, hend⟩ | hx)
  ·have hd : a'.defers = [] := hs.defers;cases e with
   | panic ch =>
    obtain ⟨s2, hw, hn2, hp⟩ := (hend : PanG Γ0 post ch s');obtain ⟨K2, h1, h2⟩ := hw K' a' w' (hin.conv rfl rfl rfl rfl) hs;show Leaves P fn a'.tmps (RX Γ0 post) a'.defers (.panicking ch) w';rw [hd];exact ⟨.pan ch, s2.obs, s2.next, K2, rfl, h1, h2.sat, h2.hdr, hn2, hp⟩
   | normal =>
    obtain ⟨v, h1, h2⟩ := zfK (Γ := Γ) (post := post) hend hin hs;show Leaves P fn a'.tmps (RX Γ0 post) a'.defers .returning w';rw [hd];exact ⟨v, h1, hR _ _ h2⟩
   | ret =>
    obtain ⟨v, h1, h2⟩ := zfK (Γ := Γ) (post := post) hend hin hs;show Leaves P fn a'.tmps (RX Γ0 post) a'.defers .returning w';rw [hd];exact ⟨v, h1, hR _ _ h2⟩
   | exit i => obtain ⟨_, _, h1, _⟩ := hend; rcases h1 with h1 | h1 <;> cases h1
   | goto i => obtain ⟨_, _, h1, _⟩ := hend; rcases h1 with h1 | h1 <;> cases h1
   | outgrown => obtain ⟨_, _, h1, _⟩ := hend; rcases h1 with h1 | h1 <;> cases h1
  ·exact hx.2
theorem RetX.of_bodyW {P f fn c ds obs nx post} (hf : P.funcs[f]? = some fn) (hb : fn.body = some c) (hn : ds.length <= fn.ntmps)
  (h : ∀ Γ : Ctx, Γ.n0 = nx -> (∀ ch s, PanG Γ post ch s -> Γ.pan ch s) -> V P Γ c (entry ds fn.ntmps obs nx) (zbf P Γ (EndW P Γ fn nx fun d o n => post (.val d) o n) .done)) : RetX P f ds obs nx post :=
 RetX.zf7 hf hb hn fun Γ h1 _ h2 _ => h Γ h1 h2
end Go.VL
namespace Go.VL
open Go
@[irreducible] def zxi (c : Code) : Code := c
theorem zrw (c : Code) : zxi c = c := by unfold zxi; rfl
theorem zfX {id : Nat} {o1 : Oper} {dst : Option Tmp} {cl : Call} {type : TypeId} {pos : String} {after : Array Edge} {guard : Option (Nat × Bool)} {rest : Code} :
  Code.seq (.region id #[o1, { dst, op := .defer cl, type, pos, after, guard }] false) rest = zxi (.seq (.region id #[o1, { dst, op := .defer cl, type, pos, after, guard }] false) rest) := (zrw _).symm
def RetDf (P : Program) (g : FuncId) (caps : List D) (obs : List (Nat × Ob)) (nx : Nat) (u : FrameMode) (post : FrameMode -> List (Nat × Ob) -> Nat -> Prop) : Prop :=
 ∀ (k : Kr) (own : Nat -> Prop) (w : World) (vs : Array Value), Sat k own obs w -> (∀ i, nx <= i -> k.hdr i = none) -> (∀ b, w.heap.size <= b -> own b) -> RepL k caps vs ->
  CallsD P g vs u w fun e u' w' => ∃ v obs' nx' k', e = .returned v /\ In (.of own k nx w) k' w' /\ Sat k' own obs' w' /\ (∀ i, nx' <= i -> k'.hdr i = none) /\ nx <= nx' /\ post u' obs' nx'
theorem RetDf.mono {P g caps obs nx u} {p q : FrameMode -> List (Nat × Ob) -> Nat -> Prop} (h : RetDf P g caps obs nx u p) (hq : ∀ u o n, p u o n -> q u o n) : RetDf P g caps obs nx u q :=
 fun k own w vs h1 h2 h3 h4 => (h k own w vs h1 h2 h3 h4).mono fun _ _ _ ⟨v, o, n, k', e, a, b, c, d, hp⟩ => ⟨v, o, n, k', e, a, b, c, d, hq _ _ _ hp⟩
theorem RetDf.congr {P g caps obs obs' nx u post} (h : RetDf P g caps obs nx u post) (e : ∀ i, getK obs' i = getK obs i) : RetDf P g caps obs' nx u post :=
 fun k own w vs hsat hhdr hfresh hrep => h k own w vs (Sat.congr hsat fun i => (e i).symm) hhdr hfresh hrep
theorem RetDf.frame {P g caps obs nx u post} (F : List (Nat × Ob)) (hF : ∀ i ob, getK F i = some ob -> getK obs i = none) (h : RetDf P g caps obs nx u post) :
  RetDf P g caps (F ++ obs) nx u (fun u o n => ∃ o1, o = F ++ o1 /\ post u o1 n) := by
 intro k own w vs hsat hhdr hfresh hrep;refine (h k _ w vs (zjZ hF hsat) hhdr (ziQ hsat hfresh) hrep).mono ?_;rintro e u' w' ⟨v, o1, n', k', he, hin, hs1, hh1, hle, hp⟩;exact ⟨v, F ++ o1, n', k', he, zn9 hfresh hin, zl0 hsat hin hs1, hh1, hle, o1, rfl, hp⟩
def LeaveD (P : Program) (Γb : Ctx) (fn : Func) (post : Out -> List (Nat × Ob) -> Nat -> Prop) (g : FuncId) (caps : List D) (u : FrameMode) (s : St) : Prop :=
 RetDf P g caps s.obs s.next u fun u' o n => settle u' = .returning /\ EndW P Γb fn Γb.n0 (fun d o n => post (.val d) o n) .ret { s with obs := o, next := n }
def zC0 (P : Program) (Γb : Ctx) (fn : Func) (post : Out -> List (Nat × Ob) -> Nat -> Prop) (g : FuncId) (caps : List D) (e : Exit) (s : St) : Prop := e = .ret /\ LeaveD P Γb fn post g caps .returning s
theorem zo7 {P Γ Γ' fn post g caps u s K K1 a w w1} (hmode : u ≠ .run) (h : LeaveD P Γ.base fn post g caps u s) (hin1 : In Γ K1 w1) (hin : In Γ' K w) (hs : Sim K Γ'.own s a w) (ho : Γ'.own.own = Γ.own.own) (hk : Γ'.k0 = K1) (hn : ∀ i, Γ'.n0 <= i -> K1.hdr i = none) (hw : Γ'.w0 = w1)
  (hc : zae P g = true) (vs : Array Value) (hrep : RepL K1 caps vs) :
  Leaves P fn a.tmps (RX Γ.base post) [{ target := .fn (.func g) vs, args := #[] }] u w := by
 have hle1 : K1.le K := by rw [<- hk]; exact hin.le
 have hin0 : In Γ K w := hin1.step hle1 (fun b o v e => by have := hin.memNew b o v e; rw [hk, ho] at this; exact this) (by rw [hin.os, hw]) (by rw [hin.tape, hw]) (by rw [hin.output, hw]) (by have := hin.size; rw [hw] at this; exact this)
  (fun b hb => by have := hin.block b (by rw [ho]; exact hb); rw [hw] at this; exact this)
 refine leaves_cons (f := g) (args := vs) hmode ?_ ?_
 ·unfold zae at hc;split at hc
  ·rename_i fn' hfn;simp at hc;obtain ⟨hb, hname⟩ := hc;have hb' : fn'.body.isNone = false := by cases hbb : fn'.body <;> simp_all
   simp [invoke, callFunc, hfn, hb', hname];intro h0;rw [h0] at hb;simp at hb
  ·cases hc
 ·refine (h K Γ'.own.own w vs hs.sat hs.hdr (fun b hb => by rw [ho]; exact hin0.own_of_ge hb) ⟨hrep.1, fun j d hj => (hrep.2 j d hj).mono hle1⟩).mono ?_;rintro e u' w' ⟨v, o, n, k', rfl, hin2, hsat, hhdr, hnx, hset, hend⟩;rw [ho] at hin2 hsat;have hin3 : In Γ k' w' := hin0.step hin2.le (fun b o v e => hin2.memNew b o v e) hin2.os hin2.tape hin2.output hin2.size hin2.block;have hsim : Sim k' Γ.base.own ({ s with obs := o, next := n } : St) { a with defers := [] } w' := ⟨hsat, rfl, hs.size, fun x d hx => ⟨(hs.env x d hx).1, (hs.env x d hx).2.mono hin2.le⟩, hhdr⟩;obtain ⟨v', h1, h2⟩ := zfK (Γ := Γ.base) (post := post) hend (hin3.conv rfl rfl rfl rfl) hsim;show Leaves P fn a.tmps (RX Γ.base post) [] (settle u') w';rw [hset];exact ⟨v', h1, h2⟩
theorem zkT {P Γ fn post s Q kt id g t type pos after type2 pos2 after2 rest} {ts : Array TypeId} {caps : List Operand}
  (hesc : ∀ e a w', bodyPostD P fn (RX Γ.base post) e a w' -> Γ.esc e a w') (hd : Γ.own.dfr = []) (hc : zae P g = true) (ht : t < s.n)
  (h : ∀ Γ' : Ctx, Γ'.n0 = s.next -> (∀ ch s2, LeaveD P Γ.base fn post g (caps.map (opd s)) (.panicking ch) s2 -> Γ'.pan ch s2) ->
    V P Γ' rest (s.put (some t) (.fnc (.func g) (caps.map (opd s)))) (zbf P Γ' (zC0 P Γ.base fn post g (caps.map (opd s))) .done)) :
  V P Γ (zxi (.seq (.region id #[{ dst := some t, op := .makeFunc (.func g) #[] caps.toArray, type := type, pos := pos, after := after, guard := none },
   { dst := none, op := .defer { callee := .value (.tmp t), args := #[], argTypes := ts }, type := type2, pos := pos2, after := after2, guard := none }] false) rest)) s (zbf P Γ Q kt) := by
 rw [zrw];intro K a w hin hs;refine wp_seq (wp_region_lit ?_);have hrep : RepL K (caps.map (opd s)) (caps.map a.eval).toArray := ⟨by simp, fun j d hj => by have := zfF hs caps j d hj; simpa using this⟩;have hfv : Rep K (.fnc (.func g) (caps.map (opd s))) (.func (.func g) #[] (caps.map a.eval).toArray) := .fnc _ _ _ (by simp) (zfF hs caps);have hts : t < a.tmps.size := by rw [hs.size]; exact ht
 refine wpList_plain rfl fun K1 hK1 => ?_;have hrun1 : (execOp a.eval { dst := some t, op := .makeFunc (.func g) #[] caps.toArray, type := type, pos := pos, after := after, guard := none }).run P w = .ok (.value (.func (.func g) #[] (caps.map a.eval).toArray)) w := by
  simp [execOp, Instr.makeFunc]
 unfold Oper.wp;rw [hrun1];refine hK1 _ _ (wpList_plain rfl fun K2 hK2 => ?_);generalize ha1 : (a.put (some t) (.func (.func g) #[] (caps.map a.eval).toArray)) = a1;have hev : a1.eval (.tmp t) = .func (.func g) #[] (caps.map a.eval).toArray := by
  subst ha1;simp [Act.eval, Act.put, hts]
 have hrun2 : (execOp a1.eval { dst := none, op := .defer { callee := .value (.tmp t), args := #[], argTypes := ts }, type := type2, pos := pos2, after := after2, guard := none }).run P w = .ok (.defer { target := .fn (.func g) (caps.map a.eval).toArray, args := #[] }) w := by
  simp [execOp, resolve, hev, Deferred.ofValue]
 unfold Oper.wp;rw [hrun2];refine hK2 _ _ ?_
 let Γ' : Ctx := ⟨⟨Γ.own.own, [{ target := .fn (.func g) (caps.map a.eval).toArray, args := #[] }]⟩, K, s.next, w, fun ch s2 => LeaveD P Γ.base fn post g (caps.map (opd s)) (.panicking ch) s2, fun _ _ _ => False⟩
 have hin' : In Γ' K w := ⟨.refl _, hs.hdr, fun b o v e => .inl e, fun b hb => hin.own_of_ge hb, rfl, rfl, rfl, Nat.le_refl _, fun _ _ => rfl⟩;have hs1 : Sim K Γ.own (s.put (some t) (.fnc (.func g) (caps.map (opd s)))) a1 w := by
  subst ha1;exact hs.put (by simpa [zay] using ht) hfv
 have hs' : Sim K Γ'.own (s.put (some t) (.fnc (.func g) (caps.map (opd s)))) (({ a1 with defers := { target := .fn (.func g) (caps.map a.eval).toArray, args := #[] } :: a1.defers } : Act).put none undef) w :=
  ⟨hs1.sat, by have := hs1.defers; rw [hd] at this; show _ :: a1.defers = _; rw [this], hs1.size, hs1.env, hs1.hdr⟩
 refine wp_mono (h Γ' rfl (fun ch s2 h => h) K _ w hin' hs') ?_;rintro e a' w' (⟨K', s', h1, h2, h3⟩ | h3)
 ·have hdf : a'.defers = [{ target := .fn (.func g) (caps.map a.eval).toArray, args := #[] }] := h2.defers;have go : ∀ u, u ≠ .run -> LeaveD P Γ.base fn post g (caps.map (opd s)) u s' -> Leaves P fn a'.tmps (RX Γ.base post) a'.defers u w' := fun u hu hl => by
   rw [hdf];exact zo7 hu hl hin h1 h2 rfl rfl hs.hdr rfl hc _ hrep
  cases e with
  | panic ch => exact .inr ⟨trivial, hesc _ _ _ (go (.panicking ch) (by simp) h3)⟩
  | ret => exact .inr ⟨trivial, hesc _ _ _ (go .returning (by simp) h3.2)⟩
  | normal => exact absurd h3.1 (by simp)
  | exit i => exact absurd h3.1 (by simp)
  | goto i => exact absurd h3.1 (by simp)
  | outgrown => exact absurd h3.1 (by simp)
 ·exact h3.2.elim
def HS (P : Program) (Γ : Ctx) : List Oper -> St -> (St -> Prop) -> Prop
 | [], s, k => k s
 | o :: l, s, k => o.guard = none /\ zcq P Γ o.dst o.op s fun s' => HS P Γ l s' k
theorem zuH {P Γ cs} {Q : Exit -> Act -> List Frame -> World -> Prop} {k : St -> Prop} (ops : Array Oper) : ∀ (l : List Oper) (i : Nat) (s : St) (K : Kr) (a : Act) (w : World), (∀ j, ops[i + j]? = l[j]?) -> HS P Γ l s k -> In Γ K w -> Sim K Γ.own s a w ->
  (∀ K' a' w' s', In Γ K' w' -> Sim K' Γ.own s' a' w' -> k s' -> Q .normal a' cs w') -> (∀ ch K' a' w' s', In Γ K' w' -> Sim K' Γ.own s' a' w' -> Γ.pan ch s' -> Q (.panic ch) a' cs w') ->
  wpOpsS P ops Q (List.range' i l.length) a cs w
 | [], i, s, K, a, w, _, h, hin, hs, hQ, _ => by simpa [wpOpsS] using hQ K a w s hin hs h
 | o :: l, i, s, K, a, w, ho, h, hin, hs, hQ, hP => by
  have h0 : ops[i]? = some o := by simpa using ho 0
  obtain ⟨hg, hst⟩ := h;rw [List.length_cons, List.range'_succ];unfold wpOpsS;rw [h0];simp only [Region.wanted, hg, if_true];have hw := ze2 hst K a w hin hs (fun a' w' => wpOpsS P ops Q (List.range' (i + 1) l.length) a' cs w') (fun e a' w' => Q e a' cs w')
   (fun K' a' w' s' h1 h2 h3 => zuH ops l (i + 1) s' K' a' w' (fun j => by have := ho (j + 1); simpa [zzA, Nat.add_comm 1 j] using this) h3 h1 h2 hQ hP) hP
  unfold Oper.wp at hw;split
  ·rename_i w' hr;rw [hr] at hw;exact hw.elim
  ·exact hw
def zmP : FrameMode -> Value × FrameMode
 | .panicking ({ v, recovered := false, goexit := false } :: older) => (v, .panicking ({ v, recovered := true } :: older))
 | u => (.nilIface, u)
def zyZ (Γ : Ctx) (post : FrameMode -> List (Nat × Ob) -> Nat -> Prop) (u' : FrameMode) (e : Exit) (s : St) : Prop := (e = .normal \/ e = .ret) /\ ∃ s', Wk Γ s s' /\ Γ.n0 <= s'.next /\ post u' s'.obs s'.next
theorem RetDf.of_body {P g fn caps obs nx u post id x type pos after l rest} (hf : P.funcs[g]? = some fn)
  (hb : fn.body = some (.seq (.region id ({ dst := some x, op := .call { callee := .builtin .recover, args := #[], argTypes := #[] }, type := type, pos := pos, after := after, guard := none } :: l : List Oper).toArray false) rest))
  (hn : caps.length <= fn.ntmps) (hx : x < fn.ntmps) (hres : fn.results = #[])
  (h : ∀ Γ : Ctx, Γ.n0 = nx -> HS P Γ l ((entry caps fn.ntmps obs nx).put (some x) (.u (.oth (zmP u).1))) fun s' => V P Γ rest s' (zbf P Γ (zyZ Γ post (zmP u).2) .done)) : RetDf P g caps obs nx u post := by
 intro k own w vs hsat hhdr hfresh hrep;have hsz : vs.size = caps.length := hrep.1
 let Γ : Ctx := .of own k nx w
 have hin : In Γ k w := ⟨.refl _, hhdr, fun b o v e => .inl e, hfresh, rfl, rfl, rfl, Nat.le_refl _, fun _ _ => rfl⟩;have hs : Sim k Γ.own (entry caps fn.ntmps obs nx) { tmps := vs ++ Array.replicate (fn.ntmps - vs.size) undef, defers := [] } w := by
  refine ⟨hsat, rfl, ?_, fun y d hy => ?_, hhdr⟩
  ·simp [entry, hsz]; omega
  ·simp only [entry, zgy, Nat.zero_le, if_true, Nat.sub_zero] at hy;have hlt := (List.getElem?_eq_some_iff.1 hy).1;refine ⟨by simp [entry]; omega, ?_⟩;have := hrep.2 y d hy;have e : (vs ++ Array.replicate (fn.ntmps - vs.size) undef).getD y undef = vs.getD y undef := by
    simp [Array.getElem?_append, show y < vs.size by omega]
   rw [e];exact this
 refine callsD_of_wpS hf hb fun c0 cs hm => wpS_seq (wpS_region ?_);have hsize : ({ dst := some x, op := .call { callee := .builtin .recover, args := #[], argTypes := #[] }, type := type, pos := pos, after := after, guard := none } :: l : List Oper).toArray.size = l.length + 1 := by simp
 rw [hsize, List.range_eq_range', List.range'_succ];generalize hops : ({ dst := some x, op := .call { callee := .builtin .recover, args := #[], argTypes := #[] }, type := type, pos := pos, after := after, guard := none } :: l : List Oper).toArray = ops;have h0 : ops[0]? = some { dst := some x, op := .call { callee := .builtin .recover, args := #[], argTypes := #[] }, type := type, pos := pos, after := after, guard := none } := by rw [<- hops]; simp
 unfold wpOpsS;rw [h0];have hrun : ∀ ρ : Operand -> Value, (execOp ρ { dst := some x, op := .call { callee := .builtin .recover, args := #[], argTypes := #[] }, type := type, pos := pos, after := after, guard := none }).run P w = .ok .recover w := fun ρ => by
  simp [execOp, resolve, invoke, builtin]
 simp only [Region.wanted, if_true, hrun];have hrec : recoverD (c0 :: cs) = some ((zmP u).1, { c0 with mode := (zmP u).2 } :: cs) \/ (recoverD (c0 :: cs) = none /\ (zmP u).1 = .nilIface /\ { c0 with mode := (zmP u).2 } = c0) := by
  subst hm;have same : ∀ m, c0.mode = m -> ({ c0 with mode := m } : Frame) = c0 := fun m h => by rw [<- h]
  cases hmo : c0.mode with
  | run => exact .inr ⟨by simp [recoverD, hmo], rfl, same _ hmo⟩
  | returning => exact .inr ⟨by simp [recoverD, hmo], rfl, same _ hmo⟩
  | panicking ch =>
   cases ch with
   | nil => exact .inr ⟨by simp [recoverD, hmo], rfl, same _ hmo⟩
   | cons e older =>
    obtain ⟨v, r, g⟩ := e;cases r <;> cases g
    ·exact .inl (by simp [recoverD, hmo, zmP])
    ·exact .inr ⟨by simp [recoverD, hmo], rfl, same _ hmo⟩
    ·exact .inr ⟨by simp [recoverD, hmo], rfl, same _ hmo⟩
    ·exact .inr ⟨by simp [recoverD, hmo], rfl, same _ hmo⟩
 have main : wpOpsS P ops (Exit.thenS (rest.wpS P (bodyPostS P fn c0 cs fun e u' w' => ∃ v obs' nx' k', e = .returned v /\ In (.of own k nx w) k' w' /\ Sat k' own obs' w' /\ (∀ i, nx' <= i -> k'.hdr i = none) /\ nx <= nx' /\ post u' obs' nx'))
   (bodyPostS P fn c0 cs fun e u' w' => ∃ v obs' nx' k', e = .returned v /\ In (.of own k nx w) k' w' /\ Sat k' own obs' w' /\ (∀ i, nx' <= i -> k'.hdr i = none) /\ nx <= nx' /\ post u' obs' nx')) (List.range' (0 + 1) l.length)
   (Act.put { tmps := vs ++ Array.replicate (fn.ntmps - vs.size) undef, defers := [] } (some x) (zmP u).1) ({ c0 with mode := (zmP u).2 } :: cs) w := by
  refine zuH ops l (0 + 1) _ k _ w (fun j => by rw [<- hops]; simp [Nat.add_comm 1 j]) (h Γ rfl) hin (hs.put (by simpa [zay, entry] using hx) (.u _ _ (.oth _))) (fun K' a' w' s' h1 h2 h3 => ?_) (fun ch K' a' w' s' _ _ h3 => h3.elim);refine wpS_of_wp (wp_mono (h3 K' a' w' h1 h2) ?_);rintro e a2 w2 (⟨K2, s2, g1, g2, g3⟩ | g3)
  ·have hd2 : a2.defers = [] := g2.defers;have fin : zyZ Γ post (zmP u).2 e s2 -> a2.defers = [] /\ ∃ u', ({ c0 with mode := (zmP u).2 } :: cs : List Frame) = { c0 with mode := u' } :: cs /\ ∃ v, (results fn a2.tmps).run P w2 = .ok v w2 /\
     ∃ v' obs' nx' k', Ending.returned v = .returned v' /\ In (.of own k nx w) k' w2 /\ Sat k' own obs' w2 /\ (∀ i, nx' <= i -> k'.hdr i = none) /\ nx <= nx' /\ post u' obs' nx' := fun ⟨_, s3, hw, hnx, hp⟩ => by
    obtain ⟨K3, q1, q2⟩ := hw K2 a2 w2 g1 g2;exact ⟨hd2, _, rfl, .tuple #[], by simp [results, hres], _, s3.obs, s3.next, K3, rfl, q1, q2.sat, q2.hdr, hnx, hp⟩
   cases e with
   | normal => exact fin g3
   | ret => exact fin g3
   | panic ch => exact g3.elim
   | exit i => rcases g3.1 with h | h <;> cases h
   | goto i => rcases g3.1 with h | h <;> cases h
   | outgrown => rcases g3.1 with h | h <;> cases h
  ·exact g3.2.elim
 rcases hrec with hr | ⟨hr, h1, h2⟩
 ·rw [hr];exact main
 ·rw [hr];rw [h1, h2] at main;exact main
end Go.VL
namespace Go.VL
open Go
def zv4 (P : Program) (Γ : Ctx) (s : St) (op : Op) : Prop :=
 ∀ s' : St, s'.n = s.n -> (∀ y, getK s'.obs y = getK s.obs y) -> (∀ x ∈ op.operands, opd s' x = opd s x) -> s.next <= s'.next -> ∀ o : Oper, o.op = op -> o.guard = none -> zay o.dst s' -> EffP P Γ o s' fun _ => False
def zwc (P : Program) (N : Nat) (s : St) (op : Op) (d : D) (W : Wr) (R : List Nat) : Prop :=
 ∃ fop args f caps, ∃ (O O' : List (Nat × Ob)) (L : List Nat), zbK op = some (fop, args) /\ zam (opd s fop) = some (f, caps) /\ zae P f = true /\ R = O.map (·.1) /\ (∀ y, y ∈ ze6 W ↔ L.contains y = true /\ y ∈ O.map (·.1)) /\ (∀ y, y ∈ ze6 W -> getK W y = some (getK O' y)) /\
  (∀ y, L.contains y = false -> getK O' y = getK O y) /\ (∀ p ∈ O, getK s.obs p.1 = some p.2) /\ (O.map (·.1)).Nodup /\ (d.under N = true /\ ∀ p ∈ O', p.2.under N = true) /\
  ∀ nx, s.next <= nx -> RetX P f (args.map (opd s) ++ caps) O nx fun r o n => r = .val d /\ (∀ y, getK o y = getK O' y) /\ n = nx
def zyi (P : Program) (N : Nat) (s : St) (op : Op) (d : D) (W : Wr) (cr : Option Nat) (R : List Nat) : Prop :=
 ∃ fop args f caps, ∃ (O : List (Nat × Ob)) (e : ERes) (nb : Ob) (x0 : Nat), zbK op = some (fop, args) /\ zam (opd s fop) = some (f, caps) /\ zae P f = true /\ R = O.map (·.1) /\ (e.U = [] /\ e.nw = some nb /\ nb.under N = true) /\
  (cr = some x0 /\ W = (x0, some nb) :: e.U /\ d = mkD e.how x0) /\ (∀ p ∈ O, getK s.obs p.1 = some p.2) /\
  ∀ nx, s.next <= nx -> RetX P f (args.map (opd s) ++ caps) O nx fun r o n => r = .val (mkD e.how nx) /\ (∀ y, getK o y = getK ((nx, nb) :: O) y) /\ n = nx + 1
def zv7 (P : Program) (N : Nat) (s : St) (op : Op) (dst : Option Tmp) (d : D) (W : Wr) (cr : Option Nat) (R : List Nat) : Prop :=
 Op1 P s op dst d W cr R \/ (zwc P N s op d W R /\ cr = none) \/ zyi P N s op d W cr R
def zw3 (P : Program) (N : Nat) (all : Array Oper) (s : St) (o : Oper) (d : D) (W : Wr) (cr : Option Nat) (R : List Nat) : Prop :=
 match o.guard with
 | none => zv7 P N s o.op o.dst d W cr R
 | some (j, want) => ∃ t, za3 all j = some t /\ ((∃ b, getK s.env t = some (.u (.bool b)) /\
  if b = want then zv7 P N s o.op o.dst d W cr R else d = .un /\ W = [] /\ cr = none) \/ (getK s.env t = some .un /\ d = .un /\ W = [] /\ cr = none))
theorem zdl {α : Type} (l : List (Nat × α)) (c : List Nat) (y : Nat) : getK (l.filter fun p => !c.contains p.1) y = if c.contains y = true then none else getK l y := by
 induction l with
 | nil => simp [getK]
 | cons p l ih =>
  obtain ⟨k, x⟩ := p;rw [List.filter_cons];by_cases hk : c.contains k = true
  ·rw [if_neg (by simpa using hk), ih, zaa];by_cases hy : y = k
   ·subst hy; rw [if_pos hk, if_pos hk]
   ·rw [if_neg hy]
  ·rw [if_pos (by simpa using hk), zaa, zaa, ih];by_cases hy : y = k
   ·subst hy; rw [if_pos rfl, if_pos rfl, if_neg hk]
   ·rw [if_neg hy, if_neg hy]
theorem zlX {α : Type} (l : List (Nat × α)) (c : List Nat) (y : Nat) : getK (l.filter fun p => c.contains p.1) y = if c.contains y = true then getK l y else none := by
 induction l with
 | nil => simp [getK]
 | cons p l ih =>
  obtain ⟨k, x⟩ := p;rw [List.filter_cons];by_cases hk : c.contains k = true
  ·rw [if_pos (by exact hk), zaa, zaa, ih];by_cases hy : y = k
   ·subst hy; rw [if_pos rfl, if_pos rfl, if_pos hk]
   ·rw [if_neg hy, if_neg hy]
  ·rw [if_neg (by exact hk), ih, zaa];by_cases hy : y = k
   ·subst hy; rw [if_neg hk, if_neg hk]
   ·rw [if_neg hy]
theorem zfH {α : Type} {l : List (Nat × α)} {y : Nat} {x : α} (h : getK l y = some x) : (y, x) ∈ l := by
 induction l with
 | nil => cases h
 | cons p l ih =>
  obtain ⟨k, d⟩ := p;rw [zaa] at h;by_cases hyk : y = k
  ·rw [if_pos hyk] at h; cases h; subst hyk; simp
  ·rw [if_neg hyk] at h; exact List.mem_cons_of_mem _ (ih h)
theorem zdD {α : Type} {l : List (Nat × α)} {y : Nat} (h : y ∈ l.map (·.1)) : ∃ x, getK l y = some x := by
 induction l with
 | nil => cases h
 | cons p l ih =>
  obtain ⟨k, d⟩ := p;rw [zaa];by_cases hyk : y = k
  ·exact ⟨d, by rw [if_pos hyk]⟩
  ·rw [if_neg hyk];simp only [zzC, List.mem_cons] at h;exact ih (h.resolve_left hyk)
theorem zkG (O : List (Nat × Ob)) (y : Nat) : getK (O.map fun p => (p.1, some p.2) : Wr) y = (getK O y).map some := by
 induction O with
 | nil => rfl
 | cons p l ih =>
  obtain ⟨k, d⟩ := p;rw [zzC, zaa, zaa, ih];split <;> rfl
theorem zdG {ρ : Nat -> Nat} {N M : Nat} (hρ : ∀ y, y < N -> ρ y = y) (hNM : N <= M) : ∀ {d : D}, d.under N = true -> Good ρ M d
 | .u x, _ => ⟨by simp [D.ren], by simp [D.under]⟩
 | .any, _ => ⟨by simp [D.ren], by simp [D.under]⟩
 | .ptr i off, h => by simp [D.under] at h; exact ⟨by simp [D.ren, hρ i h], by simp [D.under]; omega⟩
 | .vec i len, h => by simp [D.under] at h; exact ⟨by simp [D.ren, hρ i h], by simp [D.under]; omega⟩
 | .mp i, h => by simp [D.under] at h; exact ⟨by simp [D.ren, hρ i h], by simp [D.under]; omega⟩
 | .elt i sz idx off, h => by simp [D.under] at h; exact ⟨by simp [D.ren, hρ i h], by simp [D.under]; omega⟩
 | .fnc f caps, h => by
  have hc : ∀ c ∈ caps, Good ρ M c := fun c hc => zdG hρ hNM (by rw [D.under] at h; simp only [List.all_map, List.all_eq_true] at h; exact h c hc);refine ⟨by rw [D.ren]; congr 1; exact (List.map_congr_left fun c hc' => (hc c hc').1).trans (List.map_id _), ?_⟩;rw [D.under];simp only [List.all_map, List.all_eq_true];exact fun c hc' => (hc c hc').2
 | .bnd f caps, h => by
  have hc : ∀ c ∈ caps, Good ρ M c := fun c hc => zdG hρ hNM (by rw [D.under] at h; simp only [List.all_map, List.all_eq_true] at h; exact h c hc);refine ⟨by rw [D.ren]; congr 1; exact (List.map_congr_left fun c hc' => (hc c hc').1).trans (List.map_id _), ?_⟩;rw [D.under];simp only [List.all_map, List.all_eq_true];exact fun c hc' => (hc c hc').2
 | .agg caps, h => by
  have hc : ∀ c ∈ caps, Good ρ M c := fun c hc => zdG hρ hNM (by rw [D.under] at h; simp only [List.all_map, List.all_eq_true] at h; exact h c hc);refine ⟨by rw [D.ren]; congr 1; exact (List.map_congr_left fun c hc' => (hc c hc').1).trans (List.map_id _), ?_⟩;rw [D.under];simp only [List.all_map, List.all_eq_true];exact fun c hc' => (hc c hc').2
 | .tup caps, h => by
  have hc : ∀ c ∈ caps, Good ρ M c := fun c hc => zdG hρ hNM (by rw [D.under] at h; simp only [List.all_map, List.all_eq_true] at h; exact h c hc);refine ⟨by rw [D.ren]; congr 1; exact (List.map_congr_left fun c hc' => (hc c hc').1).trans (List.map_id _), ?_⟩;rw [D.under];simp only [List.all_map, List.all_eq_true];exact fun c hc' => (hc c hc').2
theorem zgN {ρ : Nat -> Nat} {N M : Nat} (hρ : ∀ y, y < N -> ρ y = y) (hNM : N <= M) {ob : Ob} (h : ob.under N = true) : ob.all (Good ρ M) := by
 cases ob with
 | it => trivial
 | nw => trivial
 | sit => trivial
 | box cs => exact fun c hc => zdG hρ hNM ((List.all_eq_true.1 h) c hc)
 | vec e sz rows => exact fun r hr c hc => zdG hρ hNM ((List.all_eq_true.1 ((List.all_eq_true.1 h) r hr)) c hc)
 | map kk ag es => exact fun p hp c hc => zdG hρ hNM ((List.all_eq_true.1 ((List.all_eq_true.1 h) p hp)) c hc)
theorem zsh {ops : List Oper} (hord : zoQ ops = true) : ∀ {i j : Nat} {y : Oper}, ops[j]? = some y -> zgD ops ops.length i j = true -> i < j := by
 have key : ∀ (n i j : Nat) (y : Oper), ops[j]? = some y -> zgD ops n i j = true -> i < j := by
  intro n
  induction n with
  | zero => intro i j y hj h; simp [zgD] at h
  | succ n ih =>
   intro i j y hj h;simp only [zgD, hj] at h;rw [List.any_eq_true] at h;obtain ⟨p, hp, h⟩ := h;have hlt := (zh4 hord hj).1 p hp;simp only [Bool.or_eq_true, beq_iff_eq] at h;rcases h with rfl | h
   ·exact hlt
   ·have hpl : p < ops.length := by have := (List.getElem?_eq_some_iff.1 hj).1; omega
    have := ih i p _ (List.getElem?_eq_getElem hpl) h;omega
 exact fun {i j y} hj h => key _ i j y hj h
theorem EffP.guard {P Γ s k} {dst op type pos after guard} (h : EffP P Γ { dst, op, type, pos, after, guard := none } s k) : EffP P Γ { dst, op, type, pos, after, guard } s k := h
def VA (P : Program) (Γ : Ctx) (ops : List Oper) (s : St) (R : Exit -> St -> Prop) : Prop :=
 ∀ K a w, In Γ K w -> Sim K Γ.own s a w -> wpAny P .any ops.toArray (VPost Γ R) ops.toArray.size (Array.replicate ops.toArray.size false) a { w with drawn := w.drawn + 1 }
set_option maxHeartbeats 4000000 in
theorem zup {P Γ} {R0 : Exit -> St -> Prop} {ops : List Oper} {T : Nat -> D} {W : Nat -> Wr} {cr : Nat -> Option Nat} {R : Nat -> List Nat} {kd : Nat -> Nat} {s : St} {M : Nat}
  (hord : zoQ ops = true) (hn0 : Γ.n0 <= s.next) (hM : s.next <= M)
  (hcr : ∀ i x, cr i = some x -> s.next <= x /\ x < M) (hcr1 : ∀ i j x, cr i = some x -> cr j = some x -> i = j)
  (hpair : ∀ i j, i < j -> j < ops.length -> zgD ops ops.length i j = false -> (∀ y ∈ ze6 (W i), y ∉ R j /\ y ∉ ze6 (W j)) /\ ∀ y ∈ ze6 (W j), y ∉ R i)
  (hkd : ∀ i, kd i ≠ 0 -> W i = [] /\ cr i = none) (hstop : ∀ p i, kd p = 1 -> i < ops.length -> W i ≠ [] -> zgD ops ops.length i p = true \/ zgD ops ops.length p i = true)
  (hval : ∀ i o, ops[i]? = some o -> zay o.dst s /\ if kd i = 2 then ∃ p, kd p = 1 /\ p < ops.length /\ zgD ops ops.length p i = true else if kd i = 1 then o.guard = none /\ zv4 P Γ (stW ops T W s M fun j => decide (j < i)) o.op else
    zw3 P s.next ops.toArray (stW ops T W s M fun j => decide (j < i)) o (T i) (W i) (cr i) (R i))
  (hfin : (∀ i, i < ops.length -> kd i ≠ 1) -> ∃ s', (stW ops T W s M fun _ => true).Eqo s' /\ R0 .normal s') : VA P Γ ops s R0 := by
 intro K a w hin hs;have hin0 : In Γ K { w with drawn := w.drawn + 1 } := ⟨hin.le, hin.none0, hin.memNew, hin.fresh, hin.os, hin.tape, hin.output, hin.size, hin.block⟩;have hs0 : Sim K Γ.own s a { w with drawn := w.drawn + 1 } := ⟨⟨hs.sat.mem, fun i ob hi => by
   obtain ⟨h, h1, h2, h3⟩ := hs.sat.ob i ob hi;exact ⟨h, h1, h2, h3.keep (.refl _) fun b e => rfl⟩, hs.sat.apart⟩, hs.defers, hs.size, hs.env, hs.hdr⟩
 generalize ({ w with drawn := w.drawn + 1 } : World) = w0 at hin0 hs0;have key : ∀ (fuel : Nat) (listed : Array Bool) (K : Kr) (a : Act) (w : World), listed.size = ops.length -> (listed.toList.filter (! ·)).length <= fuel ->
   (∀ j y, ops[j]? = some y -> listed.getD j false = true -> ∀ p ∈ zeP y, listed.getD p false = true) -> In Γ K w -> Sim K Γ.own (stW ops T W s M fun j => listed.getD j false) a w ->
   (∀ j x, j < ops.length -> listed.getD j false = false -> cr j = some x -> K.hdr x = none) -> (∀ p, kd p = 1 -> p < ops.length -> listed.getD p false = false) ->
   wpAny P .any ops.toArray (VPost Γ R0) fuel listed a w := by
  have allDone : ∀ (listed : Array Bool) (K : Kr) (a : Act) (w : World), (∀ p, kd p = 1 -> p < ops.length -> listed.getD p false = false) -> (∀ j, j < ops.length -> listed.getD j false = true) -> In Γ K w -> Sim K Γ.own (stW ops T W s M fun j => listed.getD j false) a w ->
    ∃ K' s', In Γ K' w /\ Sim K' Γ.own s' a w /\ R0 .normal s' := fun listed K a w hsp hall hin hs => by
   obtain ⟨s', he, hfin⟩ := hfin fun i hi hk => by have h1 := hsp i hk hi; rw [hall i hi] at h1; cases h1
   refine ⟨K, _, hin, Sim.eqo (hs.eqo ?_) he, hfin⟩;refine ⟨rfl, fun x => ?_, rfl, fun x => ?_⟩
   ·simp only [stW, zbc];rw [zdR W _ (fun _ => true) x ops.length fun j hj _ => hall j hj]
   ·exact zej T _ _ x ops 0 s.env s.env rfl fun j o hj _ => by
     have hl := (List.getElem?_eq_some_iff.1 hj).1;simp only [Nat.zero_add];exact hall j hl
  have least : ∀ (listed : Array Bool), listed.size = ops.length -> ∀ i, i < ops.length -> listed.getD i false = false -> ∃ i0, i0 ∈ Region.ready .any ops.toArray listed := fun listed hsz i hi hu => by
   induction i using Nat.strongRecOn with
   | _ i ih =>
    have ho : ops[i]? = some ops[i] := List.getElem?_eq_getElem hi;by_cases hp : ∀ p ∈ zeP ops[i], listed.getD p false = true
    ·refine ⟨i, mem_ready.2 ⟨?_, ops[i], by simp, fun e he hb => hp e.on ?_⟩⟩
     ·have hi' : i < listed.size := by omega
      simp [hi'] at hu ⊢;exact hu
     ·simp only [zeP, List.mem_map, List.mem_filter];exact ⟨e, ⟨by simpa using he, hb⟩, rfl⟩
    ·simp only [Classical.not_forall] at hp;obtain ⟨p, hpm, hpu⟩ := hp;have hlt := (zh4 hord ho).1 p hpm;exact ih p hlt (by omega) (by simpa using hpu)
  intro fuel
  induction fuel with
  | zero =>
   intro listed K a w hsz hcnt hcl hin hs _ hsp;have hall : ∀ j, j < ops.length -> listed.getD j false = true := fun j hj => by
    have hj' : j < listed.size := by omega
    have h0 : (listed.toList.filter (! ·)) = [] := List.eq_nil_of_length_eq_zero (by omega);have := (List.filter_eq_nil_iff.1 h0) listed[j] (by simp);simp only [Bool.not_eq_true', Bool.not_eq_false] at this;simp [hj', this]
   refine ⟨?_, .inl (allDone listed K a w hsp hall hin hs)⟩;refine List.eq_nil_iff_forall_not_mem.2 fun i hi => ?_;obtain ⟨h1, o, ho, _⟩ := mem_ready.1 hi;have hl : i < ops.length := by
    have := (Array.getElem?_eq_some_iff.1 ho).1;simpa using this
   have := hall i hl;have hi' : i < listed.size := by omega
   simp [hi'] at h1 this;rw [h1] at this;cases this
  | succ fuel ih =>
   intro listed K a w hsz hcnt hcl hin hs hfr hsp;refine ⟨fun hnil => .inl (allDone listed K a w hsp (fun j hj => ?_) hin hs), fun i hi => ?_⟩
   ·cases hu : listed.getD j false with
    | true => rfl
    | false =>
     obtain ⟨i0, h0⟩ := least listed hsz j hj hu;rw [hnil] at h0;cases h0
   ·obtain ⟨hun, o, ho, hall⟩ := mem_ready.1 hi;have ho' : ops[i]? = some o := by simpa using ho
    have hil := (List.getElem?_eq_some_iff.1 ho').1;have hil' : i < listed.size := by omega
    have hunf : listed.getD i false = false := by simp [hil'] at hun ⊢; exact hun
    have hpred : ∀ p ∈ zeP o, listed.getD p false = true := fun p hp => by
     simp only [zeP, List.mem_map, List.mem_filter] at hp;obtain ⟨e, ⟨he, hb⟩, rfl⟩ := hp;exact hall e (by simpa using he) hb
    obtain ⟨hpo, hv⟩ := hval i o ho';have bef1 : ∀ j, zgD ops ops.length j i = true -> listed.getD j false = true := fun j hb => zhH hcl _ j i o ho' hpred hb;have bef2 : ∀ j x, ops[j]? = some x -> zgD ops ops.length i j = true -> listed.getD j false = false := fun j x hj hb => by
     cases hu : listed.getD j false with
     | false => rfl
     | true =>
      have := zhH hcl _ i j x hj (hcl j x hj hu) hb;rw [hunf] at this;cases this
    have before : ∀ j x, ops[j]? = some x -> j < i -> ziB ops.toArray x o = true \/ ziB ops.toArray o x = true -> listed.getD j false = true := fun j x hj hlt hmm =>
     bef1 j ((zh4 hord ho').2.2 j x hlt hj hmm)
    have behind : ∀ j x, ops[j]? = some x -> i < j -> ziB ops.toArray x o = true \/ ziB ops.toArray o x = true -> listed.getD j false = false := fun j x hj hlt hmm =>
     bef2 j x hj ((zh4 hord hj).2.2 i o hlt ho' hmm.symm)
    have agree : ∀ t, t ∈ o.looksAt ops.toArray -> getK (zgY T (fun j => listed.getD j false) ops 0 s.env) t = getK (zgY T (fun j => decide (j < i)) ops 0 s.env) t := fun t ht => by
     refine zej T _ _ t ops 0 s.env s.env rfl fun j x hj hx => ?_;simp only [Nat.zero_add];have hmm : ziB ops.toArray x o = true := by simp [ziB, hx, ht]
     rcases Nat.lt_trichotomy j i with h | h | h
     ·rw [before j x hj h (.inl hmm)]; simp [h]
     ·subst h; rw [hunf]; simp
     ·rw [behind j x hj h (.inl hmm)]; simp; omega
    have hopd : ∀ x ∈ o.op.operands, opd (stW ops T W s M fun j => decide (j < i)) x = opd (stW ops T W s M fun j => listed.getD j false) x := fun x hx => by
     cases x with
     | tmp t =>
      simp only [opd, St.at, stW];rw [agree t (List.mem_append_left _ (List.mem_filterMap.2 ⟨.tmp t, by simpa using hx, rfl⟩))]
     | _ => rfl
    have hloc : ∀ y ∈ R i, getK (stW ops T W s M fun j => decide (j < i)).obs y = getK (stW ops T W s M fun j => listed.getD j false).obs y := fun y hy => by
     simp only [stW, zbc];rw [zdR W (fun j => decide (j < i)) (fun j => listed.getD j false) y ops.length fun j hj hk => ?_];rcases Nat.lt_trichotomy j i with h | h | h
     ·have hb : zgD ops ops.length j i = true := by
       cases hb : zgD ops ops.length j i with
       | true => rfl
       | false => exact absurd hy (((hpair j i h hil hb).1 y hk).1)
      rw [bef1 j hb];simp [h]
     ·subst h; rw [hunf]; simp
     ·have hb : zgD ops ops.length i j = true := by
       cases hb : zgD ops ops.length i j with
       | true => rfl
       | false => exact absurd hy ((hpair i j h hj hb).2 y hk)
      rw [bef2 j _ (List.getElem?_eq_getElem hj) hb];simp; omega
    have hlast : ∀ y ∈ ze6 (W i), ∀ j, j < ops.length -> i < j -> y ∈ ze6 (W j) -> listed.getD j false = false := fun y hy j hj hlt hk => by
     have hb : zgD ops ops.length i j = true := by
      cases hb : zgD ops ops.length i j with
      | true => rfl
      | false => exact absurd hk ((hpair i j hlt hj hb).1 y hy).2
     exact bef2 j _ (List.getElem?_eq_getElem hj) hb
    have hS : (fun j => (listed.setIfInBounds i true).getD j false) = fun j => listed.getD j false || j == i := funext fun j => by
     by_cases hji : j = i
     ·subst hji; simp [hil']
     ·simp [Array.getElem?_setIfInBounds_ne (Ne.symm hji), hji]
    have henv : ∀ (x : Nat), o.dst = some x -> getK (zgY T (fun j => listed.getD j false || j == i) ops 0 s.env) x = some (T i) := fun x hdx =>
     zoh T _ i x ops 0 s.env i o ho' (by omega) hdx fun j o' hj hlt hd' => by
      rw [Nat.zero_add];exact behind j o' hj hlt (.inl (by simp [ziB, hd', hdx]))
    have henv' : ∀ (x : Nat), o.dst ≠ some x -> getK (zgY T (fun j => listed.getD j false || j == i) ops 0 s.env) x = getK (zgY T (fun j => listed.getD j false) ops 0 s.env) x := fun x hdx =>
     zej T _ (fun j => listed.getD j false) x ops 0 s.env s.env rfl fun j o' hj hd' => by
      simp only [Nat.zero_add];have : j ≠ i := fun e => by subst e; rw [ho'] at hj; cases hj; exact hdx hd'
      simp [this]
    by_cases hk2 : kd i = 2
    ·rw [if_pos hk2] at hv;obtain ⟨p, hp1, hp2, hp3⟩ := hv;have := bef1 p hp3;rw [hsp p hp1 hp2] at this;cases this
    rw [if_neg hk2] at hv;by_cases hk1 : kd i = 1
    ·rw [if_pos hk1] at hv;obtain ⟨hg, hst⟩ := hv;unfold wpOp;rw [ho];simp only [Region.wanted, hg, if_true];refine .inl (hst (stW ops T W s M fun j => listed.getD j false) rfl (fun y => ?_) (fun x hx => (hopd x hx).symm) (Nat.le_refl _) o rfl hg hpo K a w hin hs _ _ (fun _ _ _ _ _ _ h => h.elim) fun ch K' a' w' s' h1 h2 h3 => .inl ⟨K', s', h1, h2, h3⟩);simp only [stW, zbc];rw [zdR W (fun j => listed.getD j false) (fun j => decide (j < i)) y ops.length fun j hj hk => ?_];have hne : W j ≠ [] := fun e => by rw [e] at hk; cases hk
     rcases hstop i j hk1 hj hne with hb | hb
     ·have h1 := bef1 j hb;have hji : j < i := by
       rcases Nat.lt_trichotomy j i with h | h | h
       ·exact h
       ·subst h; rw [hunf] at h1; cases h1
       ·have := zsh hord ho' hb; omega
      rw [h1]; simp [hji]
     ·have h1 := bef2 j _ (List.getElem?_eq_getElem hj) hb;have hji : ¬ j < i := by have := zsh hord (List.getElem?_eq_getElem hj) hb; omega
      rw [h1]; simp [hji]
    rw [if_neg hk1] at hv;have go : ∀ K' a' w', In Γ K' w' -> Sim K' Γ.own (stW ops T W s M fun j => listed.getD j false || j == i) a' w' ->
      (∀ j x, j < ops.length -> (listed.getD j false || j == i) = false -> cr j = some x -> K'.hdr x = none) ->
      wpAny P .any ops.toArray (VPost Γ R0) fuel (listed.setIfInBounds i true) a' w' := fun K' a' w' h1 h2 h3 => by
     have hS' : ∀ j, (listed.setIfInBounds i true).getD j false = (listed.getD j false || j == i) := fun j => congrFun hS j;refine ih (listed.setIfInBounds i true) K' a' w' (by simp [hsz]) ?_ (fun j y hj hSj p hp => ?_) h1 (by rw [hS]; exact h2) (fun j x hj hu => h3 j x hj (by rw [<- hS']; exact hu)) (fun p hp1 hp2 => by
      rw [hS', hsp p hp1 hp2];have : p ≠ i := fun e => hk1 (e ▸ hp1);simp [this])
     ·have cnt : ∀ (l : List Bool) (n : Nat), l[n]? = some false -> ((l.set n true).filter (! ·)).length + 1 = (l.filter (! ·)).length := by
       intro l
       induction l with
       | nil => intro n h; simp at h
       | cons b l ih =>
               intro n h;cases n with
               | zero => simp at h; subst h; simp
               | succ n =>
                have := ih n (by simpa using h);cases b <;> simp at this ⊢ <;> omega
      have := cnt listed.toList i (by
       rw [Array.getElem?_toList, Array.getElem?_eq_getElem hil'];simp [hil'] at hunf;rw [hunf])
      rw [Array.toList_setIfInBounds];omega
     ·rw [hS'] at hSj ⊢;simp only [Bool.or_eq_true, beq_iff_eq] at hSj ⊢;rcases hSj with hSj | rfl
      ·exact .inl (hcl j y hj hSj p hp)
      ·rw [ho'] at hj;cases hj;exact .inl (hpred p hp)
    have next : W i = [] -> ∀ K' v w', In Γ K' w' -> K.le K' -> K'.hdr = K.hdr -> Sat K' Γ.own (stW ops T W s M fun j => listed.getD j false).obs w' -> Rep K' (T i) v ->
      wpAny P .any ops.toArray (VPost Γ R0) fuel (listed.setIfInBounds i true) (a.put o.dst v) w' := fun hW K' v w' h1 h2 h3 h4 h5 => by
     refine go K' _ w' h1 ?_ fun j x hj hu hc => by
      rw [h3];simp only [Bool.or_eq_false_iff] at hu;exact hfr j x hj hu.1 hc
     have hdef : (a.put o.dst v).defers = Γ.own.dfr := by cases o.dst <;> exact hs.defers
     have hsize : (a.put o.dst v).tmps.size = s.n := by
      have hsz2 : a.tmps.size = s.n := hs.size;cases o.dst <;> simp [Act.put, hsz2]
     refine ⟨h4.eqo fun y => ?_, hdef, hsize, fun x d hx => ?_, fun j hj => by rw [h3]; exact hs.hdr j hj⟩
     ·simp only [stW, zbc];rw [zdR W (fun j => listed.getD j false) (fun j => listed.getD j false || j == i) y ops.length fun j hj hk => ?_];by_cases hji : j = i
      ·subst hji; rw [hW] at hk; cases hk
      ·simp [hji]
     ·simp only [stW] at hx;by_cases hdx : o.dst = some x
      ·rw [henv x hdx] at hx;cases hx;have hlt : x < s.n := by rw [hdx] at hpo; exact hpo
       refine ⟨hlt, ?_⟩;have hsz' : a.tmps.size = s.n := hs.size;rw [hdx];simpa [Act.put, hsz', hlt] using h5
      ·rw [henv' x hdx] at hx;obtain ⟨g1, g2⟩ := hs.env x d hx;refine ⟨g1, ?_⟩
       have e : (a.put o.dst v).tmps.getD x undef = a.tmps.getD x undef := by
               cases hd : o.dst with
               | none => rfl
               | some y =>
                have hne : y ≠ x := fun e => hdx (by rw [hd, e]);simp [Act.put, Array.getElem?_setIfInBounds_ne hne]
       rw [e];exact g2.mono h2
    unfold wpOp;rw [ho];simp only;have two : (Region.wanted o (yielded ops.toArray a.tmps) = true /\ zv7 P s.next (stW ops T W s M fun j => decide (j < i)) o.op o.dst (T i) (W i) (cr i) (R i)) \/ (Region.wanted o (yielded ops.toArray a.tmps) = false /\ T i = .un /\ W i = []) := by
     unfold zw3 at hv;split at hv
     ·rename_i hg;exact .inl ⟨by simp [Region.wanted, hg], hv⟩
     ·rename_i j want hg;obtain ⟨t, ht, hv⟩ := hv;have lift : ∀ dd, getK (stW ops T W s M fun j => decide (j < i)).env t = some dd -> getK (stW ops T W s M fun j => listed.getD j false).env t = some dd := fun dd hb => by
       simp only [stW] at hb ⊢
       rw [agree t (by
               refine List.mem_append_right _ ?_;unfold za3 at ht;simp only [hg];rw [ht];simp)]
       exact hb
      rcases hv with ⟨b, hb, hv⟩ | ⟨hb, hv⟩
      ·have hb' := lift _ hb;obtain ⟨hlt, hr⟩ := hs.getK hb';have hbv := zeH hr
       have hyd : yielded ops.toArray a.tmps j = some b := by
               unfold yielded;unfold za3 at ht;rw [ht];simp only [Option.bind_some];have : a.tmps[t]? = some (.bool b) := by
                rw [Array.getElem?_eq_getElem hlt];simp [hlt] at hbv;rw [hbv]
               rw [this]
       by_cases hbw : b = want
       ·rw [if_pos hbw] at hv;exact .inl ⟨by simp [Region.wanted, hg, hyd, hbw], hv⟩
       ·rw [if_neg hbw] at hv;exact .inr ⟨by simp [Region.wanted, hg, hyd, hbw], hv.1, hv.2.1⟩
      ·have hb' := lift _ hb;obtain ⟨hlt, hr⟩ := hs.getK hb';have hbv := zel hr
       have hyd : yielded ops.toArray a.tmps j = none := by
               unfold yielded;unfold za3 at ht;rw [ht];simp only [Option.bind_some];have : a.tmps[t]? = some undef := by
                rw [Array.getElem?_eq_getElem hlt];simp [hlt] at hbv;rw [hbv]
               rw [this]
               try rfl
       exact .inr ⟨by simp [Region.wanted, hg, hyd], hv.1, hv.2.1⟩
    rcases two with ⟨hw, hv⟩ | ⟨hw, hv⟩
    ·rw [if_pos hw]
     let un : Nat -> Prop := fun y => ∃ j, j < ops.length /\ (listed.getD j false || j == i) = false /\ cr j = some y
     let ρ : Nat -> Nat := fun y => open Classical in if cr i = some y then M else if un y then M + 1 + y else y
     have hknown : ∀ y h, K.hdr y = some h -> ρ y = y /\ y < M := fun y h hy => by
      have h1 : cr i ≠ some y := fun e => by rw [hfr i y hil hunf e] at hy; cases hy
      have h2 : ¬ un y := fun ⟨j, hj, hu, hc⟩ => by
       simp only [Bool.or_eq_false_iff] at hu;rw [hfr j y hj hu.1 hc] at hy;cases hy
      refine ⟨by simp only [ρ]; rw [if_neg h1, if_neg h2], ?_⟩;rcases Nat.lt_or_ge y M with h | h
      ·exact h
      ·rw [hs.hdr y h] at hy; cases hy
     have hobs : ∀ y ob, getK (stW ops T W s M fun j => listed.getD j false).obs y = some ob -> (ρ y = y /\ y < M) /\ ob.all (Good ρ M) := fun y ob hy => by
      have hok := hs.sat.ob y ob hy;obtain ⟨h, h1, _⟩ := hok;exact ⟨hknown y h h1, (hs.sat.ob y ob hy).good hknown⟩
     have hρs0 : ∀ y, y < s.next -> ρ y = y := fun y hy => by
      have c1 : cr i ≠ some y := fun e => by have := (hcr i y e).1; omega
      have c2 : ¬ un y := fun ⟨j, _, _, hc⟩ => by have := (hcr j y hc).1; omega
      simp only [ρ];rw [if_neg c1, if_neg c2]
     have mk : ∀ e' : ERes, (∀ p ∈ e'.U, ∀ ob, p.2 = some ob -> ob.all (Good ρ M) /\ ∃ o, getK (stW ops T W s M fun j => listed.getD j false).obs p.1 = some o) -> (∀ ob, e'.nw = some ob -> ob.all (Good ρ M)) ->
       (match e'.nw with | none => o.dst = none /\ W i = e'.U /\ cr i = none | some ob => ∃ x, cr i = some x /\ W i = (x, some ob) :: e'.U /\ T i = mkD e'.how x) ->
       ∀ K' a' w', In Γ K' w' -> Sim K' Γ.own ((stW ops T W s M fun j => listed.getD j false).effS e' o.dst) a' w' -> wpAny P .any ops.toArray (VPost Γ R0) fuel (listed.setIfInBounds i true) a' w' := by
      intro e' hgU hgN hcase K' a' w' h1 h2;have hle : St.Le Γ.n0 ρ ((stW ops T W s M fun j => listed.getD j false).effS e' o.dst) (stW ops T W s M fun j => listed.getD j false || j == i) := by
       have hWi : ∀ y, y ∈ ze6 (W i) → getK (zgm W (fun j => listed.getD j false || j == i) ops.length) y = getK (W i) y := fun y hy =>
               zke W _ i y hy ops.length hil fun j hj hlt hk => hlast y hy j hj hlt hk
       have hWn : ∀ y, y ∉ ze6 (W i) → getK (zgm W (fun j => listed.getD j false || j == i) ops.length) y = getK (zgm W (fun j => listed.getD j false) ops.length) y := fun y hy =>
               zdR W _ _ y ops.length fun j hj hk => by
                by_cases hji : j = i
                ·subst hji; exact absurd hk hy
                ·simp [hji]
       have hinj : ∀ y1 y2, y1 < M → y2 < M → ρ y1 = ρ y2 → y1 = y2 := fun y1 y2 g1 g2 hr => by
               simp only [ρ] at hr;by_cases c1 : cr i = some y1 <;> by_cases c2 : cr i = some y2
               ·rw [c1] at c2; cases c2; rfl
               ·rw [if_pos c1, if_neg c2] at hr;split at hr <;> omega
               ·rw [if_neg c1, if_pos c2] at hr;split at hr <;> omega
               ·rw [if_neg c1, if_neg c2] at hr;split at hr <;> split at hr <;> omega
       have hobs2 : ∀ y ob', getK (stW ops T W s M fun j => listed.getD j false || j == i).obs y = some ob' → y < M ∧
                ∃ ob, getK ((stW ops T W s M fun j => listed.getD j false).effS e' o.dst).obs (ρ y) = some ob /\ Ob.le ρ ob ob' /\ ob'.under M = true := fun y ob' hy => by
               simp only [stW, zbc] at hy;cases hn : e'.nw with
               | none =>
                rw [hn] at hcase;obtain ⟨hd0, hWU, hcn⟩ := hcase;have hob : ∀ z, getK ((stW ops T W s M fun j => listed.getD j false).effS e' o.dst).obs z = match getK (W i) z with | some x => x | none => getK (stW ops T W s M fun j => listed.getD j false).obs z := fun z => by
                 simp only [St.effS, hn, zbc, hWU]
                 try rfl
                by_cases hk : y ∈ ze6 (W i)
                ·rw [hWi y hk] at hy;obtain ⟨x, hx⟩ := zfZ (W i) y hk;rw [hx] at hy;simp only at hy;subst hy;have hmem : (y, some ob') ∈ e'.U := by
                  rw [<- hWU];have : ∀ (l : Wr), getK l y = some (some ob') -> (y, some ob') ∈ l := by
                   intro l
                   induction l with
                   | nil => intro h; cases h
                   | cons p l ih =>
                    obtain ⟨k', d'⟩ := p;intro h;rw [zaa] at h;by_cases hyk : y = k'
                    ·rw [if_pos hyk] at h; cases h; subst hyk; simp
                    ·rw [if_neg hyk] at h; exact List.mem_cons_of_mem _ (ih h)
                  exact this _ hx
                 obtain ⟨hga, o0, ho0⟩ := hgU _ hmem ob' rfl;obtain ⟨⟨hr, hlt⟩, _⟩ := hobs y o0 ho0;refine ⟨hlt, ob', ?_, (Ob.zeM hga).1, (Ob.zeM hga).2⟩;rw [hr, hob, hx]
                ·rw [hWn y hk] at hy;obtain ⟨⟨hr, hlt⟩, hga⟩ := hobs y ob' (by simp only [stW, zbc]; exact hy);refine ⟨hlt, ob', ?_, (Ob.zeM hga).1, (Ob.zeM hga).2⟩;rw [hr, hob, zcX (W i) y hk];simp only [stW, zbc];exact hy
               | some nb =>
                rw [hn] at hcase;obtain ⟨x0, hcx, hWU, hTi⟩ := hcase;have hx0 := hcr i x0 hcx;have hob : ∀ z, z ≠ M -> getK ((stW ops T W s M fun j => listed.getD j false).effS e' o.dst).obs z = match getK e'.U z with | some x => x | none => getK (stW ops T W s M fun j => listed.getD j false).obs z := fun z hz => by
                 have : ∀ (q : St) (d : D), (q.put o.dst d).obs = q.obs := fun q d => by cases o.dst <;> rfl
                 simp only [St.effS, hn, this, zaa];rw [if_neg (by simpa [stW] using hz), zbc]
                 try rfl
                have hobM : getK ((stW ops T W s M fun j => listed.getD j false).effS e' o.dst).obs M = some nb := by
                 have : ∀ (q : St) (d : D), (q.put o.dst d).obs = q.obs := fun q d => by cases o.dst <;> rfl
                 simp only [St.effS, hn, this, zaa];rw [if_pos (by simp [stW])]
                by_cases hyx : y = x0
                ·subst hyx;have hk : y ∈ ze6 (W i) := by rw [hWU]; simp [ze6]
                 rw [hWi y hk, hWU, zaa, if_pos rfl] at hy;simp only at hy;cases hy;have hga := hgN ob' hn;refine ⟨hx0.2, ob', ?_, (Ob.zeM hga).1, (Ob.zeM hga).2⟩;simp only [ρ];rw [if_pos hcx];exact hobM
                ·by_cases hk : y ∈ ze6 (W i)
                 ·rw [hWi y hk, hWU, zaa, if_neg hyx] at hy;have hk' : y ∈ e'.U.map (·.1) := by
                   rw [hWU] at hk;simp only [ze6, zzC, List.mem_cons] at hk;exact hk.resolve_left hyx
                  obtain ⟨x, hx⟩ := zfZ e'.U y hk';rw [hx] at hy;simp only at hy;subst hy;have hmem : (y, some ob') ∈ e'.U := by
                   have : ∀ (l : Wr), getK l y = some (some ob') -> (y, some ob') ∈ l := by
                    intro l
                    induction l with
                    | nil => intro h; cases h
                    | cons p l ih =>
                     obtain ⟨k', d'⟩ := p;intro h;rw [zaa] at h;by_cases hyk : y = k'
                     ·rw [if_pos hyk] at h; cases h; subst hyk; simp
                     ·rw [if_neg hyk] at h; exact List.mem_cons_of_mem _ (ih h)
                   exact this _ hx
                  obtain ⟨hga, o0, ho0⟩ := hgU _ hmem ob' rfl;obtain ⟨⟨hr, hlt⟩, _⟩ := hobs y o0 ho0;refine ⟨hlt, ob', ?_, (Ob.zeM hga).1, (Ob.zeM hga).2⟩;rw [hr, hob y (by omega), hx]
                 ·rw [hWn y hk] at hy;obtain ⟨⟨hr, hlt⟩, hga⟩ := hobs y ob' (by simp only [stW, zbc]; exact hy);refine ⟨hlt, ob', ?_, (Ob.zeM hga).1, (Ob.zeM hga).2⟩;have hk' : y ∉ e'.U.map (·.1) := by
                   rw [hWU] at hk;simp only [ze6, zzC, List.mem_cons, not_or] at hk;exact hk.2
                  rw [hr, hob y (by omega), zcX e'.U y hk'];simp only [stW, zbc];exact hy
       have henv2 : ∀ x d', getK (stW ops T W s M fun j => listed.getD j false || j == i).env x = some d' →
                (D.le ρ (((stW ops T W s M fun j => listed.getD j false).effS e' o.dst).at x) d' /\ d'.under M = true) /\ x < s.n := fun x d' hx => by
               simp only [stW] at hx;by_cases hdx : o.dst = some x
               ·rw [henv x hdx] at hx;cases hx;have hlt : x < s.n := by rw [hdx] at hpo; exact hpo
                cases hn : e'.nw with
                | none =>
                 rw [hn] at hcase;rw [hcase.1] at hdx;cases hdx
                | some nb =>
                 rw [hn] at hcase;obtain ⟨x0, hcx, hWU, hTi⟩ := hcase;have hx0 := hcr i x0 hcx;have hρ : ρ x0 = M := by simp only [ρ]; rw [if_pos hcx]
                 refine ⟨⟨.inr (.inl ?_), ?_⟩, hlt⟩
                 ·rw [hTi];simp only [St.effS, hn, hdx, St.put, St.at, zaa, if_true, Option.getD_some];cases e'.how <;> simp [mkD, D.ren, hρ, stW]
                 ·rw [hTi];cases e'.how <;> simp [mkD, D.under, hx0.2]
               ·rw [henv' x hdx] at hx;obtain ⟨g1, g2⟩ := hs.env x d' hx;have hgd := g2.good hknown;have hat : ((stW ops T W s M fun j => listed.getD j false).effS e' o.dst).at x = d' := by
                 have : ∀ (q : St) (d : D), getK (q.put o.dst d).env x = getK q.env x := fun q d => by
                  cases hd : o.dst with
                  | none => rfl
                  | some y =>
                   have hne : ¬ x = y := fun e => hdx (by rw [hd, e]);simp only [St.put, zaa, if_neg hne]
                 simp only [St.at, St.effS];cases hn : e'.nw with
                 | none => simp only [stW, hx]; rfl
                 | some nb => simp only [this, stW, hx]; rfl
                rw [hat];exact ⟨⟨.inr (.inl hgd.1.symm), hgd.2⟩, g1⟩
       refine ⟨?_, fun x d' hx => (henv2 x d' hx).1, fun x d' hx => ?_, hobs2, fun y1 y2 o1 o2 g1 g2 hr => hinj y1 y2 (hobs2 y1 o1 g1).1 (hobs2 y2 o2 g2).1 hr, fun j hj => ?_⟩
       ·have : ∀ (q : St) (d : D), (q.put o.dst d).n = q.n := fun q d => by cases o.dst <;> rfl
        simp only [St.effS];cases e'.nw <;> simp only [this] <;> rfl
       ·have : ∀ (q : St) (d : D), (q.put o.dst d).n = q.n := fun q d => by cases o.dst <;> rfl
        have e2 : ((stW ops T W s M fun j => listed.getD j false).effS e' o.dst).n = s.n := by
         simp only [St.effS];cases e'.nw <;> simp only [this] <;> rfl
        rw [e2];exact (henv2 x d' hx).2
       ·have c1 : cr i ≠ some j := fun e => by have := (hcr i j e).1; omega
        have c2 : ¬ un j := fun ⟨q, _, _, hc⟩ => by have := (hcr q j hc).1; omega
        refine ⟨by simp only [ρ]; rw [if_neg c1, if_neg c2], ?_⟩;show j < M;omega
      obtain ⟨g1, g2⟩ := Sim.weak h1 h2 hle;refine go _ a' w' g1 g2 fun j x hj hu hc => ?_;simp only [Kr.ren];split
      ·have c1 : cr i ≠ some x := fun e => by
               have := hcr1 i j x e hc;subst this;simp at hu
       have c2 : un x := ⟨j, hj, hu, hc⟩;simp only [ρ];rw [if_neg c1, if_pos c2];refine h2.hdr _ ?_;have : ∀ (q : St) (d : D), (q.put o.dst d).next = q.next := fun q d => by cases o.dst <;> rfl
       simp only [St.effS];cases e'.nw <;> simp only [this, stW] <;> omega
      ·rfl
     rcases hv with (⟨hv, hW, hcn, hR⟩ | ⟨e, he, hR, hcase⟩) | ⟨⟨fop, args, f, caps, O, O', L, hco, hcf, hcb, hR, hkW, hWg, hsm, hO, hnd, ⟨hdu, hOu⟩, hret⟩, hcn⟩ | ⟨fop, args, f, caps, O, e, nb, x0, hco, hcf, hcb, hR, ⟨heU, heN, hnu⟩, hcx, hO, hret⟩
     ·replace hv := zkg (s := stW ops T W s M fun j => decide (j < i)) (s' := stW ops T W s M fun j => listed.getD j false) (by rw [<- hR]; exact hloc) hopd hv
      exact .inl (zsO hv hin hs fun K' v w' h1 h2 h3 h4 h5 => next hW K' v w' h1 h2 h3 h4 h5)
     ·
      replace he := zgZ (s := stW ops T W s M fun j => decide (j < i)) (s' := stW ops T W s M fun j => listed.getD j false) (by rw [<- hR]; exact hloc) hopd he
      have hgood := ztN (g := Good ρ M) (fun _ => ⟨by simp [D.ren], by simp [D.under]⟩) (fun cs h => h.agg) he (fun x hx => (zaX hs x).good hknown) (fun y ob hy => (hobs y ob hy).2);obtain ⟨e', he', ⟨rfl, hgU, hgN⟩⟩ := Lin.effD.2 _ hgood
      have he2 : effD P (stW ops T W s M fun j => listed.getD j false) o.op fun e => zay o.dst (stW ops T W s M fun j => listed.getD j false) ∧ (e.nw = none → o.dst = none) ∧
               ((stW ops T W s M fun j => listed.getD j false).effS e o.dst) = (stW ops T W s M fun j => listed.getD j false).effS e' o.dst :=
       Lin.effD.1 _ _ (fun e hee => by
               subst hee;refine ⟨hpo, fun hn => ?_, rfl⟩;rw [hn] at hcase;exact hcase.1) he
      refine .inl (ze2 (k := fun s' => s' = (stW ops T W s M fun j => listed.getD j false).effS e' o.dst) (zpw he2) K a w hin hs _ _ (fun K' a' w' s' h1 h2 h3 => ?_) fun ch K' a' w' s' h1 h2 h3 => .inl ⟨K', s', h1, h2, h3⟩);have h3' : s' = _ := h3;subst h3';exact mk e' hgU hgN hcase K' a' w' h1 h2
     ·
      let un : Nat -> Prop := fun y => ∃ j, j < ops.length /\ (listed.getD j false || j == i) = false /\ cr j = some y
      let ρ : Nat -> Nat := fun y => open Classical in if un y then M + 1 + y else y
      have hρs : ∀ y, y < s.next -> ρ y = y := fun y hy => by
       have : ¬ un y := fun ⟨j, _, _, hc⟩ => by have := (hcr j y hc).1; omega
       simp only [ρ]; rw [if_neg this]
      have hknown : ∀ y h, K.hdr y = some h -> ρ y = y /\ y < M := fun y h hy => by
       have h2 : ¬ un y := fun ⟨j, hj, hu, hc⟩ => by
               simp only [Bool.or_eq_false_iff] at hu;rw [hfr j y hj hu.1 hc] at hy;cases hy
       refine ⟨by simp only [ρ]; rw [if_neg h2], ?_⟩;rcases Nat.lt_or_ge y M with h | h
       ·exact h
       ·rw [hs.hdr y h] at hy; cases hy
      have hobs : ∀ y ob, getK (stW ops T W s M fun j => listed.getD j false).obs y = some ob -> (ρ y = y /\ y < M) /\ ob.all (Good ρ M) := fun y ob hy => by
       have hok := hs.sat.ob y ob hy;obtain ⟨h, h1, _⟩ := hok;exact ⟨hknown y h h1, (hs.sat.ob y ob hy).good hknown⟩
      have hOact : ∀ p ∈ O, getK (stW ops T W s M fun j => listed.getD j false).obs p.1 = some p.2 := fun p hp => by
       rw [<- hloc p.1 (by rw [hR]; exact List.mem_map.2 ⟨p, hp, rfl⟩)];exact hO p hp
      have hOget : ∀ y ob, getK O y = some ob -> getK (stW ops T W s M fun j => listed.getD j false).obs y = some ob := fun y ob h => hOact _ (zfH h)
      let F := (stW ops T W s M fun j => listed.getD j false).obs.filter fun p => !(O.map (·.1)).contains p.1
      have hFg : ∀ y, getK F y = if (O.map (·.1)).contains y = true then none else getK (stW ops T W s M fun j => listed.getD j false).obs y := fun y => zdl _ _ y;have hOn : ∀ y, ¬ (O.map (·.1)).contains y = true -> getK O y = none := fun y h => zcX O y (by simpa using h);have heq : ∀ y, getK (stW ops T W s M fun j => listed.getD j false).obs y = getK (F ++ O) y := fun y => by
       rw [zab, hFg];by_cases hy : (O.map (·.1)).contains y = true
       ·rw [if_pos hy];obtain ⟨x, hx⟩ := zdD (l := O) (y := y) (by simpa using hy);rw [hx, hOget y x hx]
       ·rw [if_neg hy, hOn y hy];cases getK (stW ops T W s M fun j => listed.getD j false).obs y <;> rfl
      have hF : ∀ y ob, getK F y = some ob -> getK O y = none := fun y ob h => by
       rw [hFg] at h;by_cases hy : (O.map (·.1)).contains y = true
       ·rw [if_pos hy] at h; cases h
       ·exact hOn y hy
      have hopdS : ∀ x, x ∈ fop :: args -> opd (stW ops T W s M fun j => listed.getD j false) x = opd (stW ops T W s M fun j => decide (j < i)) x := fun x hx => (hopd x (by
       rcases o with ⟨odst, oop, ot, opos, oaf, og⟩
       unfold zbK at hco;split at hco
       ·rename_i c hop;simp only at hop;subst hop;split at hco
        ·cases hco;rename_i f' hcal;simp only [Op.operands, Call.operands, hcal];simp only [List.mem_cons] at hx;simp;rcases hx with rfl | hx
         ·exact .inl rfl
         ·exact .inr (by simpa using hx)
        ·cases hco
       ·cases hco)).symm
      have hcall : CallP P Γ fop args o.dst (stW ops T W s M fun j => listed.getD j false) fun s' => ∃ o1, (∀ y, getK o1 y = getK O' y) /\ s' = (({ (stW ops T W s M fun j => listed.getD j false) with obs := F ++ o1, next := M } : St).put o.dst (T i)) :=
       CallP.xF F O (hret M (Nat.le_refl _)) heq hF (by rw [hopdS fop (by simp)]; exact hcf) hcb (by rw [List.map_congr_left fun x hx => hopdS x (by simp [hx])]) hpo
               (fun d o1 nx' _ ⟨h1, h2, h3⟩ => ⟨o1, h2, by cases h1; rw [h3]⟩) (fun ch o1 nx' _ ⟨h1, _⟩ => by cases h1)
      have heff : EffP P Γ o (stW ops T W s M fun j => listed.getD j false) fun s' => ∃ o1, (∀ y, getK o1 y = getK O' y) /\ s' = (({ (stW ops T W s M fun j => listed.getD j false) with obs := F ++ o1, next := M } : St).put o.dst (T i)) := by
       have e := hcall;rcases o with ⟨odst, oop, ot, opos, oaf, og⟩
       unfold zbK at hco;split at hco
       ·rename_i c hop;simp only at hop;subst hop;split at hco
        ·cases hco;rename_i f' hcal;obtain ⟨cal, cargs, cts⟩ := c;simp only at hcal;subst hcal;exact EffP.guard (e cts ot opos oaf)
        ·cases hco
       ·cases hco
      refine .inl (heff K a w hin hs _ _ (fun K' a' w' s' h1 h2 h3 => ?_) fun ch K' a' w' s' h1 h2 h3 => .inl ⟨K', s', h1, h2, h3⟩);obtain ⟨o1, ho1, rfl⟩ := h3;have hWi : ∀ y, y ∈ ze6 (W i) -> getK (zgm W (fun j => listed.getD j false || j == i) ops.length) y = getK (W i) y := fun y hy =>
       zke W _ i y hy ops.length hil fun j hj hlt hk => hlast y hy j hj hlt hk
      have hWn : ∀ y, y ∉ ze6 (W i) -> getK (zgm W (fun j => listed.getD j false || j == i) ops.length) y = getK (zgm W (fun j => listed.getD j false) ops.length) y := fun y hy =>
       zdR W _ _ y ops.length fun j hj hk => by
               by_cases hji : j = i
               ·subst hji; exact absurd hk hy
               ·simp [hji]
      have pobs : ∀ (q : St) (d : D), (q.put o.dst d).obs = q.obs := fun q d => by cases o.dst <;> rfl
      have pn : ∀ (q : St) (d : D), (q.put o.dst d).n = q.n := fun q d => by cases o.dst <;> rfl
      have pnext : ∀ (q : St) (d : D), (q.put o.dst d).next = q.next := fun q d => by cases o.dst <;> rfl
      have hobs2 : ∀ y ob', getK (stW ops T W s M fun j => listed.getD j false || j == i).obs y = some ob' → y < M ∧
               ∃ ob, getK (({ (stW ops T W s M fun j => listed.getD j false) with obs := F ++ o1, next := M } : St).put o.dst (T i)).obs (ρ y) = some ob /\ Ob.le ρ ob ob' /\ ob'.under M = true := fun y ob' hy => by
       rw [pobs];simp only [stW, zbc] at hy;by_cases hk : y ∈ ze6 (W i)
       ·rw [hWi y hk, hWg y hk] at hy;have hyO : y ∈ O.map (·.1) := ((hkW y).1 hk).2;obtain ⟨x0, hx0⟩ := zdD (l := O) (y := y) hyO;obtain ⟨⟨hr, hlt⟩, _⟩ := hobs y x0 (hOget y x0 hx0);cases hq : getK O' y with
        | none =>
         rw [hq] at hy;simp at hy
        | some ob =>
         rw [hq] at hy;have hy : ob = ob' := by simpa using hy
         subst hy;have hga := zgN (M := M) hρs hM (hOu _ (zfH hq));refine ⟨hlt, ob, ?_, (Ob.zeM hga).1, (Ob.zeM hga).2⟩;rw [hr, zab, hFg, if_pos (by simpa using hyO), ho1 y, hq]
       ·rw [hWn y hk] at hy;obtain ⟨⟨hr, hlt⟩, hga⟩ := hobs y ob' (by simp only [stW, zbc]; exact hy);refine ⟨hlt, ob', ?_, (Ob.zeM hga).1, (Ob.zeM hga).2⟩;by_cases hyO : (O.map (·.1)).contains y = true
        ·have hL : L.contains y = false := by
          cases hL : L.contains y with
          | false => rfl
          | true => exact absurd ((hkW y).2 ⟨hL, by simpa using hyO⟩) hk
         obtain ⟨x0, hx0⟩ := zdD (l := O) (y := y) (by simpa using hyO);have hx1 := hOget y x0 hx0;simp only [stW, zbc] at hx1;rw [hy] at hx1;rw [hr, zab, hFg, if_pos hyO, ho1 y, hsm y hL, hx0];exact hx1.symm
        ·rw [hr, zab, hFg, if_neg hyO];simp only [stW, zbc];rw [hy]
      have henv2 : ∀ x d', getK (stW ops T W s M fun j => listed.getD j false || j == i).env x = some d' →
               (D.le ρ ((({ (stW ops T W s M fun j => listed.getD j false) with obs := F ++ o1, next := M } : St).put o.dst (T i)).at x) d' /\ d'.under M = true) /\ x < s.n := fun x d' hx => by
       simp only [stW] at hx;by_cases hdx : o.dst = some x
       ·rw [henv x hdx] at hx;cases hx;have hlt : x < s.n := by rw [hdx] at hpo; exact hpo
        have hg := zdG (M := M) hρs hM hdu;refine ⟨⟨.inr (.inl ?_), hg.2⟩, hlt⟩;simp only [hdx, St.put, St.at, zaa, if_true, Option.getD_some];exact hg.1.symm
       ·rw [henv' x hdx] at hx;obtain ⟨g1, g2⟩ := hs.env x d' hx;have hgd := g2.good hknown;have hat : (({ (stW ops T W s M fun j => listed.getD j false) with obs := F ++ o1, next := M } : St).put o.dst (T i)).at x = d' := by
         have : ∀ (q : St) (d : D), getK (q.put o.dst d).env x = getK q.env x := fun q d => by
          cases hd : o.dst with
          | none => rfl
          | some y =>
           have hne : ¬ x = y := fun e => hdx (by rw [hd, e]);simp only [St.put, zaa, if_neg hne]
         simp only [St.at, this, stW, hx]
         try rfl
        rw [hat];exact ⟨⟨.inr (.inl hgd.1.symm), hgd.2⟩, g1⟩
      have hinj : ∀ y1 y2, y1 < M -> y2 < M -> ρ y1 = ρ y2 -> y1 = y2 := fun y1 y2 g1 g2 hr => by
       simp only [ρ] at hr;split at hr <;> split at hr <;> omega
      have hle : St.Le Γ.n0 ρ (({ (stW ops T W s M fun j => listed.getD j false) with obs := F ++ o1, next := M } : St).put o.dst (T i)) (stW ops T W s M fun j => listed.getD j false || j == i) := by
       refine ⟨by rw [pn]; rfl, fun x d' hx => (henv2 x d' hx).1, fun x d' hx => by rw [pn]; exact (henv2 x d' hx).2, hobs2, fun y1 y2 o1 o2 g1 g2 hr => hinj y1 y2 (hobs2 y1 o1 g1).1 (hobs2 y2 o2 g2).1 hr, fun j hj => ⟨hρs j (by omega), ?_⟩⟩;show j < M;omega
      obtain ⟨g1, g2⟩ := Sim.weak h1 h2 hle;refine go _ a' w' g1 g2 fun j x hj hu hc => ?_;simp only [Kr.ren];split
      ·have c2 : un x := ⟨j, hj, hu, hc⟩;simp only [ρ];rw [if_pos c2];refine h2.hdr _ ?_;rw [pnext];show M <= M + 1 + x;omega
      ·rfl
     ·
      have hOact : ∀ p ∈ O, getK (stW ops T W s M fun j => listed.getD j false).obs p.1 = some p.2 := fun p hp => by
       rw [<- hloc p.1 (by rw [hR]; exact List.mem_map.2 ⟨p, hp, rfl⟩)];exact hO p hp
      have hOget : ∀ y ob, getK O y = some ob -> getK (stW ops T W s M fun j => listed.getD j false).obs y = some ob := fun y ob h => hOact _ (zfH h)
      let F := (stW ops T W s M fun j => listed.getD j false).obs.filter fun p => !(O.map (·.1)).contains p.1
      have hFg : ∀ y, getK F y = if (O.map (·.1)).contains y = true then none else getK (stW ops T W s M fun j => listed.getD j false).obs y := fun y => zdl _ _ y;have hOn : ∀ y, ¬ (O.map (·.1)).contains y = true -> getK O y = none := fun y h => zcX O y (by simpa using h);have heq : ∀ y, getK (stW ops T W s M fun j => listed.getD j false).obs y = getK (F ++ O) y := fun y => by
       rw [zab, hFg];by_cases hy : (O.map (·.1)).contains y = true
       ·rw [if_pos hy];obtain ⟨x, hx⟩ := zdD (l := O) (y := y) (by simpa using hy);rw [hx, hOget y x hx]
       ·rw [if_neg hy, hOn y hy];cases getK (stW ops T W s M fun j => listed.getD j false).obs y <;> rfl
      have hF : ∀ y ob, getK F y = some ob -> getK O y = none := fun y ob h => by
       rw [hFg] at h;by_cases hy : (O.map (·.1)).contains y = true
       ·rw [if_pos hy] at h; cases h
       ·exact hOn y hy
      have hopdS : ∀ x, x ∈ fop :: args -> opd (stW ops T W s M fun j => listed.getD j false) x = opd (stW ops T W s M fun j => decide (j < i)) x := fun x hx => (hopd x (by
       rcases o with ⟨odst, oop, ot, opos, oaf, og⟩
       unfold zbK at hco;split at hco
       ·rename_i c hop;simp only at hop;subst hop;split at hco
        ·cases hco;rename_i f' hcal;simp only [Op.operands, Call.operands, hcal];simp only [List.mem_cons] at hx;simp;rcases hx with rfl | hx
         ·exact .inl rfl
         ·exact .inr (by simpa using hx)
        ·cases hco
       ·cases hco)).symm
      have hMn : getK (stW ops T W s M fun j => listed.getD j false).obs M = none := by
       cases hq : getK (stW ops T W s M fun j => listed.getD j false).obs M with
       | none => rfl
       | some ob =>
               obtain ⟨h, h1, _⟩ := hs.sat.ob M ob hq;rw [hs.hdr M (Nat.le_refl _)] at h1;cases h1
      have hcall : CallP P Γ fop args o.dst (stW ops T W s M fun j => listed.getD j false) fun s' => ∃ o1, (∀ y, getK o1 y = getK ((M, nb) :: O) y) /\ s' = (({ (stW ops T W s M fun j => listed.getD j false) with obs := F ++ o1, next := M + 1 } : St).put o.dst (mkD e.how M)) :=
       CallP.xF F O (hret M (by first | exact Nat.le_refl _ | exact hM)) heq hF (by rw [hopdS fop (by simp)]; exact hcf) hcb (by rw [List.map_congr_left fun x hx => hopdS x (by simp [hx])]) hpo
               (fun d o1 nx' _ ⟨h1, h2, h3⟩ => ⟨o1, h2, by cases h1; rw [h3]⟩) (fun ch o1 nx' _ ⟨h1, _⟩ => by cases h1)
      have heff : EffP P Γ o (stW ops T W s M fun j => listed.getD j false) fun s' => ∃ o1, (∀ y, getK o1 y = getK ((M, nb) :: O) y) /\ s' = (({ (stW ops T W s M fun j => listed.getD j false) with obs := F ++ o1, next := M + 1 } : St).put o.dst (mkD e.how M)) := by
       have e := hcall;rcases o with ⟨odst, oop, ot, opos, oaf, og⟩
       unfold zbK at hco;split at hco
       ·rename_i c hop;simp only at hop;subst hop;split at hco
        ·cases hco;rename_i f' hcal;obtain ⟨cal, cargs, cts⟩ := c;simp only at hcal;subst hcal;exact EffP.guard (e cts ot opos oaf)
        ·cases hco
       ·cases hco
      refine .inl (heff K a w hin hs _ _ (fun K' a' w' s' h1 h2 h3 => ?_) fun ch K' a' w' s' h1 h2 h3 => .inl ⟨K', s', h1, h2, h3⟩);obtain ⟨o1, ho1, rfl⟩ := h3;refine mk e (by rw [heU]; simp) (fun ob h => by rw [heN] at h; cases h; exact zgN hρs0 hM hnu) (by rw [heN]; exact ⟨x0, hcx⟩) K' a' w' h1 (h2.eqo ?_);have pobs : ∀ (q : St) (d : D), (q.put o.dst d).obs = q.obs := fun q d => by cases o.dst <;> rfl
      have pn : ∀ (q : St) (d : D), (q.put o.dst d).n = q.n := fun q d => by cases o.dst <;> rfl
      have pnext : ∀ (q : St) (d : D), (q.put o.dst d).next = q.next := fun q d => by cases o.dst <;> rfl
      have penv : ∀ (q q' : St) (d : D) (x : Nat), q.env = q'.env -> getK (q.put o.dst d).env x = getK (q'.put o.dst d).env x := fun q q' d x e => by cases o.dst <;> simp [St.put, e]
      simp only [St.effS, heN];refine ⟨by rw [pn, pn], fun y => ?_, by rw [pnext, pnext]; rfl, fun x => penv _ _ _ x rfl⟩;rw [pobs, pobs];simp only [heU];rw [zab, ho1, zaa, zaa];show _ = if y = M then some nb else getK (zar [] (stW ops T W s M fun j => listed.getD j false).obs) y;have hap : zar [] (stW ops T W s M fun j => listed.getD j false).obs = (stW ops T W s M fun j => listed.getD j false).obs := rfl;rw [hap];by_cases hy : y = M
      ·subst hy;have hFM : getK F y = none := by rw [hFg, hMn]; split <;> rfl
       rw [hFM];simp
      ·rw [if_neg hy, if_neg hy, heq y, zab]
    ·rw [if_neg (by rw [hw]; simp)];exact next hv.2 K undef w hin (.refl _) rfl hs.sat (by rw [hv.1]; exact .u _ _ (.oth _))
 have h0 : (fun j => (Array.replicate ops.toArray.size false).getD j false) = fun _ => false := funext fun j => by
  by_cases hj : j < ops.length <;> simp [hj]
 refine key _ _ K a w0 (by simp) (by simp) (fun j y hj hS => ?_) hin0 ?_ (fun j x _ _ hc => hs.hdr x (hcr j x hc).1) (fun p _ _ => congrFun h0 p)
 ·have : (Array.replicate ops.toArray.size false).getD j false = false := congrFun h0 j;rw [this] at hS;cases hS
 ·rw [h0];have none : ∀ (l : List Oper) (i : Nat) (e : List (Nat × D)), zgY T (fun _ => false) l i e = e := by
   intro l
   induction l with
   | nil => intro i e; rfl
   | cons o l ih => intro i e; simp [zgY, ih]
  have wn : ∀ m, zgm W (fun _ => false) m = [] := by
   intro m
   induction m with
   | zero => rfl
   | succ m ih => simp [zgm, ih]
  refine ⟨hs0.sat.eqo fun y => ?_, hs0.defers, hs0.size, fun x d hx => hs0.env x d ?_, fun y hy => hs0.hdr y (Nat.le_trans hM hy)⟩
  ·simp only [stW, wn]; rfl
  ·simp only [stW, none] at hx; exact hx
abbrev zuR := Ent × Nat
abbrev Fp4 := List (List Nat × List Nat × Nat)
def eE (E : Nat -> zuR) (j : Nat) : Ent := (E j).1
def tF4 (E : Nat -> zuR) (n : Nat) : Fp4 := (List.range n).map fun j => (tR (eE E) j, ze6 (tW (eE E) j), (E j).2)
def zyY (P : Program) (N : Nat) (s : St) (o : O1) (e : Ent) : Prop :=
 match o.guard with
 | none => zv7 P N s o.op o.dst e.1 e.2.1 e.2.2.1 e.2.2.2
 | some (t, want) => (∃ b, getK s.env t = some (.u (.bool b)) /\ if b = want then zv7 P N s o.op o.dst e.1 e.2.1 e.2.2.1 e.2.2.2 else e.1 = .un /\ e.2.1 = [] /\ e.2.2.1 = none) \/
  (getK s.env t = some .un /\ e.1 = .un /\ e.2.1 = [] /\ e.2.2.1 = none)
def Op4 (P : Program) (Γ : Ctx) (N : Nat) (s : St) (o : O1) (e : zuR) : Prop :=
 if e.2 = 2 then e.1.2.1 = [] /\ e.1.2.2.1 = none else if e.2 = 1 then o.guard = none /\ zv4 P Γ s o.op /\ e.1.2.1 = [] /\ e.1.2.2.1 = none else e.2 = 0 /\ zyY P N s o e.1
def zme (P : Program) (Γ : Ctx) (N : Nat) : List O1 -> St -> Fp4 -> (St -> Fp4 -> Prop) -> Prop
 | [], s, fp, k => k s fp
 | o :: rest, s, fp, k => ∃ e : zuR, zay o.dst s /\ Op4 P Γ N s o e /\ (∀ x, e.1.2.2.1 = some x -> x = s.next) /\ zme P Γ N rest (s.app o.dst e.1) (fp ++ [(e.1.2.2.2, ze6 e.1.2.1, e.2)]) k
def HD4 (P : Program) (Γ : Ctx) (N : Nat) (l : List O1) (s : St) (fp : Fp4) (C : Fp4 -> Prop) (k : St -> Prop) : Prop :=
 ∀ s0 : St, s0.Eqo s -> zme P Γ N l s0 fp fun s1 fp => C fp /\ ((∀ p ∈ fp, p.2.2 ≠ 1) -> ∃ s', s1.Eqo s' /\ k s')
def zhd (P : Program) (Γ : Ctx) (N : Nat) (o : O1) (rest : List O1) (s : St) (fp : Fp4) (C : Fp4 -> Prop) (k : St -> Prop) : Prop :=
 ∀ s0 : St, s0.Eqo s -> ∃ e : zuR, zay o.dst s0 /\ Op4 P Γ N s0 o e /\ e.2 ≠ 1 /\ (∀ x, e.1.2.2.1 = some x -> x = s0.next) /\ zme P Γ N rest (s0.app o.dst e.1) (fp ++ [(e.1.2.2.2, ze6 e.1.2.1, e.2)]) fun s1 fp => C fp /\ ((∀ p ∈ fp, p.2.2 ≠ 1) -> ∃ s', s1.Eqo s' /\ k s')
theorem HD4.of_h {P Γ N o rest s fp C k} (h : zhd P Γ N o rest s fp C k) : HD4 P Γ N (o :: rest) s fp C k := fun s0 e => by
 obtain ⟨en, h1, h2, _, h3, h4⟩ := h s0 e;exact ⟨en, h1, h2, h3, h4⟩
theorem zfn {P Γ N s fp C k} (hC : C fp) (h : k s) : HD4 P Γ N [] s fp C k := fun s0 e => ⟨hC, fun _ => ⟨s, e, h⟩⟩
theorem zeg {P Γ N s fp C k} (hC : C fp) (h : (fp.any fun p => p.2.2 == 1) = true) : HD4 P Γ N [] s fp C k := fun s0 e => ⟨hC, fun h1 => by
 obtain ⟨p, hp, hk⟩ := List.any_eq_true.1 h;exact absurd (by simpa using hk) (h1 p hp)⟩
theorem zdf {P Γ N s dst op rest fp C k} (_ : zbH op = false) (h : valD P s op fun d => zay dst s /\ HD4 P Γ N rest (s.put dst d) (fp ++ [(zcl s op, [], 0)]) C k) : zhd P Γ N ⟨dst, op, none⟩ rest s fp C k := fun s0 e => by
 obtain ⟨d, hv, hp, hr⟩ := Lin.valD.2 _ h;refine ⟨((d, [], none, zcl s op), 0), by cases dst <;> simp_all [zay, e.1], ?_, by simp, fun x hx => (by cases hx), hr _ (e.put dst d)⟩;unfold Op4;rw [if_neg (by simp), if_neg (by simp)];exact ⟨rfl, .inl (.inl ⟨by rw [zsP e]; exact hv, rfl, rfl, (zio e op).symm⟩)⟩
theorem zoo {P Γ N s dst op rest fp C k} (_ : zbH op = true) (h : effD P s op fun e => zay dst s /\ (e.nw = none -> dst = none) /\
  HD4 P Γ N rest (s.effS e dst) (fp ++ [(zcl s op, match e.nw with | none => (e.U.map (·.1), 0) | some _ => (s.next :: e.U.map (·.1), 0))]) C k) : zhd P Γ N ⟨dst, op, none⟩ rest s fp C k := fun s0 e0 => by
 obtain ⟨e, hv, hp, hd, hr⟩ := Lin.effD.2 _ h;have hp0 : zay dst s0 := by cases dst <;> simp_all [zay, e0.1]
 have hv0 : effD P s0 op (· = e) := by rw [ztM e0]; exact hv
 cases hn : e.nw with
 | none =>
  obtain rfl := hd hn;refine ⟨((.any, e.U, none, zcl s op), 0), hp0, ?_, by simp, fun x hx => (by cases hx), ?_⟩
  ·unfold Op4;rw [if_neg (by simp), if_neg (by simp)];exact ⟨rfl, .inl (.inr ⟨e, hv0, (zio e0 op).symm, by rw [hn]; exact ⟨rfl, rfl, rfl⟩⟩)⟩
  rw [hn] at hr;refine hr _ ?_;simp only [St.app, St.effS, hn, St.put];exact ⟨e0.1, fun x => by simp only [zbc, e0.2.1 x], e0.2.2.1, e0.2.2.2⟩
 | some ob =>
  refine ⟨((mkD e.how s0.next, (s0.next, some ob) :: e.U, some s0.next, zcl s op), 0), hp0, ?_, by simp, fun x hx => (by cases hx; rfl), ?_⟩
  ·unfold Op4;rw [if_neg (by simp), if_neg (by simp)];exact ⟨rfl, .inl (.inr ⟨e, hv0, (zio e0 op).symm, by rw [hn]; exact ⟨s0.next, rfl, rfl, rfl⟩⟩)⟩
  rw [hn] at hr;have h1 := hr (s0.app dst (mkD e.how s0.next, (s0.next, some ob) :: e.U, some s0.next, zcl s op)) (by
   simp only [St.app, St.effS, hn, e0.2.2.1];apply St.Eqo.put;refine ⟨e0.1, fun x => ?_, by simp, e0.2.2.2⟩;simp only [zar, zad, zaa, zbc, e0.2.1 x])
  simp only [ze6, zzC];rw [e0.2.2.1] at h1 ⊢;exact h1
theorem zbQ {P Γ N s dst op rest fp C k} (h0 : zbH op = false) (h : valD P s op fun d => zay dst s /\ HD4 P Γ N rest (s.put dst d) (fp ++ [(zcl s op, [], 0)]) C k) : HD4 P Γ N (⟨dst, op, none⟩ :: rest) s fp C k := .of_h (zdf h0 h)
theorem zja {P Γ N s dst op rest fp C k} (h0 : zbH op = true) (h : effD P s op fun e => zay dst s /\ (e.nw = none -> dst = none) /\
  HD4 P Γ N rest (s.effS e dst) (fp ++ [(zcl s op, match e.nw with | none => (e.U.map (·.1), 0) | some _ => (s.next :: e.U.map (·.1), 0))]) C k) : HD4 P Γ N (⟨dst, op, none⟩ :: rest) s fp C k := .of_h (zoo h0 h)
theorem zg9 {P Γ N s dst op rest fp C k t want b} (hb : getK s.env t = some (.u (.bool b))) (hp : zay dst s)
  (hy : b = want -> zhd P Γ N ⟨dst, op, none⟩ rest (s.put (some t) (.u (.bool want))) fp C k)
  (hn : b = !want -> HD4 P Γ N rest ((s.put (some t) (.u (.bool (!want)))).put dst .un) (fp ++ [([], [], 0)]) C k) : HD4 P Γ N (⟨dst, op, some (t, want)⟩ :: rest) s fp C k := fun s0 e => by
 have lit : ∀ b', b = b' -> s.Eqo (s.put (some t) (.u (.bool b'))) := fun b' e' => ⟨rfl, fun _ => rfl, rfl, fun x => by
  subst e';simp only [St.put, zaa];split
  ·rename_i hx; rw [hx, hb]
  ·rfl⟩
 have hp0 : zay dst s0 := by cases dst <;> simp_all [zay, e.1]
 by_cases hw : b = want
 ·have e1 := e.trans (lit want hw);obtain ⟨en, h1, h2, h5, h3, h4⟩ := hy hw s0 e1;refine ⟨en, h1, ?_, h3, h4⟩;unfold Op4 at h2 ⊢;by_cases h6 : en.2 = 2
  ·rw [if_pos h6] at h2 ⊢;exact h2
  ·rw [if_neg h6, if_neg h5] at h2 ⊢;exact ⟨h2.1, .inl ⟨b, by rw [e.2.2.2 t]; exact hb, by rw [if_pos hw]; exact h2.2⟩⟩
 ·have hw' : b = !want := by cases b <;> cases want <;> simp_all
  have e1 := e.trans (lit _ hw');refine ⟨((.un, [], none, []), 0), hp0, ?_, fun x hx => (by cases hx), hn hw' _ (e1.put dst .un)⟩;unfold Op4;rw [if_neg (by simp), if_neg (by simp)];exact ⟨rfl, .inl ⟨b, by rw [e.2.2.2 t]; exact hb, by rw [if_neg hw]; exact ⟨rfl, rfl, rfl⟩⟩⟩
theorem zpO {P Γ N s dst op rest fp C k t want} (hb : getK s.env t = some .un) (hp : zay dst s) (hn : HD4 P Γ N rest (s.put dst .un) (fp ++ [([], [], 0)]) C k) :
  HD4 P Γ N (⟨dst, op, some (t, want)⟩ :: rest) s fp C k := fun s0 e => by
 refine ⟨((.un, [], none, []), 0), by cases dst <;> simp_all [zay, e.1], ?_, fun x hx => (by cases hx), hn _ (e.put dst .un)⟩;unfold Op4;rw [if_neg (by simp), if_neg (by simp)];exact ⟨rfl, .inr ⟨by rw [e.2.2.2 t]; exact hb, rfl, rfl, rfl⟩⟩
theorem zoq {P Γ N s dst op g rest fp C k} (hp : zay dst s) (h : HD4 P Γ N rest (s.put dst .any) (fp ++ [([], [], 2)]) C k) : HD4 P Γ N (⟨dst, op, g⟩ :: rest) s fp C k := fun s0 e => by
 refine ⟨((.any, [], none, []), 2), by cases dst <;> simp_all [zay, e.1], ?_, fun x hx => (by cases hx), h _ (e.put dst .any)⟩;unfold Op4;rw [if_pos rfl];exact ⟨rfl, rfl⟩
theorem zns (W : Wr) {o o' : List (Nat × Ob)} (h : ∀ y, getK o y = getK o' y) : ∀ y, getK (zar W o) y = getK (zar W o') y := fun y => by rw [zbc, zbc, h y]
theorem zj6 {O O' : List (Nat × Ob)} (L : List Nat) (hkeys : O'.map (·.1) = O.map (·.1)) (y : Nat) :
  y ∈ ze6 ((O'.filter fun p => L.contains p.1).map (fun p => (p.1, some p.2)) : Wr) ↔ L.contains y = true /\ y ∈ O.map (·.1) := by
 rw [<- hkeys];simp only [ze6, List.map_map, List.mem_map, List.mem_filter, Function.comp];exact ⟨fun ⟨p, ⟨h1, h2⟩, h3⟩ => ⟨h3 ▸ h2, p, h1, h3⟩, fun ⟨h1, p, h2, h3⟩ => ⟨p, ⟨h2, by rw [h3]; exact h1⟩, h3⟩⟩
theorem zr9 {O O' : List (Nat × Ob)} (L : List Nat) (hkeys : O'.map (·.1) = O.map (·.1)) (y : Nat) (hy : y ∈ ze6 ((O'.filter fun p => L.contains p.1).map (fun p => (p.1, some p.2)) : Wr)) :
  getK ((O'.filter fun p => L.contains p.1).map (fun p => (p.1, some p.2)) : Wr) y = some (getK O' y) := by
 obtain ⟨h1, h2⟩ := (zj6 L hkeys y).1 hy;rw [zkG, zlX, if_pos h1];obtain ⟨x, hx⟩ := zdD (l := O') (y := y) (by rw [hkeys]; exact h2);rw [hx]; rfl
theorem zmu {P : Program} {Γ : Ctx} {N : Nat} {s : St} {dst : Option Tmp} {rest fp C k} {fop : Operand} {args : Array Operand} {ts : Array TypeId} {f caps} {ds : List D} {d : D} (O O' : List (Nat × Ob)) (L : List Nat)
  (hret : ∀ nx, s.next <= nx -> RetX P f ds O nx fun r o n => r = .val d /\ (∀ y, getK o y = getK O' y) /\ n = nx)
  (hf : zam (opd s fop) = some (f, caps)) (hc : zae P f = true) (hds : args.toList.map (opd s) ++ caps = ds) (hkeys : O'.map (·.1) = O.map (·.1)) (hsm : ∀ y, L.contains y = false -> getK O' y = getK O y) (hO : ∀ p ∈ O, getK s.obs p.1 = some p.2) (hnd : (O.map (·.1)).Nodup)
  (hu : d.under N = true /\ ∀ p ∈ O', p.2.under N = true) (hp : zay dst s)
  (h : HD4 P Γ N rest (({ s with obs := zar ((O'.filter fun p => L.contains p.1).map fun p => (p.1, some p.2)) s.obs } : St).put dst d) (fp ++ [(O.map (·.1), (O'.filter fun p => L.contains p.1).map (·.1), 0)]) C k) :
  HD4 P Γ N (⟨dst, .call { callee := .value fop, args, argTypes := ts }, none⟩ :: rest) s fp C k := fun s0 e => by
 refine ⟨((d, (O'.filter fun p => L.contains p.1).map (fun p => (p.1, some p.2)), none, O.map (·.1)), 0), by cases dst <;> simp_all [zay, e.1], ?_, fun x hx => (by cases hx), ?_⟩
 ·unfold Op4;rw [if_neg (by simp), if_neg (by simp)];refine ⟨rfl, .inr (.inl ⟨⟨fop, args.toList, f, caps, O, O', L, rfl, by rw [zeO e]; exact hf, hc, rfl, zj6 L hkeys, zr9 L hkeys, hsm, fun p hp => by rw [e.2.1]; exact hO p hp, hnd, hu, fun nx hnx => ?_⟩, rfl⟩)⟩;have e1 : args.toList.map (opd s0) = args.toList.map (opd s) := List.map_congr_left fun x _ => zeO e x;rw [e1, hds];exact hret nx (by rw [e.2.2.1] at hnx; exact hnx)
 ·have := h (s0.app dst (d, (O'.filter fun p => L.contains p.1).map (fun p => (p.1, some p.2)), none, O.map (·.1))) (by
   simp only [St.app];apply St.Eqo.put;exact ⟨e.1, zns _ e.2.1, by simpa using e.2.2.1, e.2.2.2⟩)
  simpa [ze6, List.map_map, Function.comp_def] using this
theorem zmt {P : Program} {Γ : Ctx} {N : Nat} {s : St} {dst : Option Tmp} {rest fp C k} {fop : Operand} {args : Array Operand} {ts : Array TypeId} {f caps} {ds : List D} (O : List (Nat × Ob)) (r : ERes) (nb : Ob)
  (hret : ∀ nx, s.next <= nx -> RetX P f ds O nx fun q o n => q = .val (mkD r.how nx) /\ (∀ y, getK o y = getK ((nx, nb) :: O) y) /\ n = nx + 1) (hr : r.U = [] /\ r.nw = some nb)
  (hf : zam (opd s fop) = some (f, caps)) (hc : zae P f = true) (hds : args.toList.map (opd s) ++ caps = ds) (hO : ∀ p ∈ O, getK s.obs p.1 = some p.2)
  (hu : nb.under N = true) (hp : zay dst s)
  (h : HD4 P Γ N rest (({ s with obs := (s.next, nb) :: s.obs, next := s.next + 1 } : St).put dst (mkD r.how s.next)) (fp ++ [(O.map (·.1), [s.next], 0)]) C k) :
  HD4 P Γ N (⟨dst, .call { callee := .value fop, args, argTypes := ts }, none⟩ :: rest) s fp C k := fun s0 e => by
 refine ⟨((mkD r.how s0.next, (s0.next, some nb) :: r.U, some s0.next, O.map (·.1)), 0), by cases dst <;> simp_all [zay, e.1], ?_, fun x hx => (by cases hx; rfl), ?_⟩
 ·unfold Op4;rw [if_neg (by simp), if_neg (by simp)];refine ⟨rfl, .inr (.inr ⟨fop, args.toList, f, caps, O, r, nb, s0.next, rfl, by rw [zeO e]; exact hf, hc, rfl, ⟨hr.1, hr.2, hu⟩, ⟨rfl, rfl, rfl⟩, fun p hp => by rw [e.2.1]; exact hO p hp, fun nx hnx => ?_⟩)⟩;have e1 : args.toList.map (opd s0) = args.toList.map (opd s) := List.map_congr_left fun x _ => zeO e x;rw [e1, hds];exact hret nx (by rw [e.2.2.1] at hnx; exact hnx)
 ·have h1 := h (s0.app dst (mkD r.how s0.next, (s0.next, some nb) :: r.U, some s0.next, O.map (·.1))) (by
   simp only [St.app, hr.1, e.2.2.1];apply St.Eqo.put;refine ⟨e.1, fun x => ?_, by simp, e.2.2.2⟩;simp only [zar, zad, zaa, zbc, e.2.1 x])
  simp only [hr.1] at h1;simp only [ze6, zzC, hr.1, zzD];rw [e.2.2.1] at h1 ⊢;exact h1
theorem zpr {O O' : List (Nat × Ob)} (hkeys : O'.map (·.1) = O.map (·.1)) : (O'.filter fun p => (O.map (·.1)).contains p.1) = O' := by
 refine List.filter_eq_self.2 fun p hp => ?_;rw [<- hkeys];simp only [List.contains_eq_mem, decide_eq_true_eq];exact List.mem_map.2 ⟨p, hp, rfl⟩
theorem zor {P : Program} {Γ : Ctx} {N : Nat} {s : St} {dst : Option Tmp} {rest fp C k} {fop : Operand} {args : Array Operand} {ts : Array TypeId} {f caps} {ds : List D} {d : D} (O O' : List (Nat × Ob))
  (hret : ∀ nx, s.next <= nx -> RetX P f ds O nx fun r o n => r = .val d /\ (∀ y, getK o y = getK O' y) /\ n = nx)
  (hf : zam (opd s fop) = some (f, caps)) (hc : zae P f = true) (hds : args.toList.map (opd s) ++ caps = ds) (hkeys : O'.map (·.1) = O.map (·.1)) (hO : ∀ p ∈ O, getK s.obs p.1 = some p.2) (hnd : (O.map (·.1)).Nodup)
  (hu : d.under N = true /\ ∀ p ∈ O', p.2.under N = true) (hp : zay dst s)
  (h : HD4 P Γ N rest (({ s with obs := zar (O'.map fun p => (p.1, some p.2)) s.obs } : St).put dst d) (fp ++ [(O.map (·.1), O'.map (·.1), 0)]) C k) :
  HD4 P Γ N (⟨dst, .call { callee := .value fop, args, argTypes := ts }, none⟩ :: rest) s fp C k :=
 zmu O O' (O.map (·.1)) hret hf hc hds hkeys (fun y hy => by
  rw [zcX O y (by simpa using hy), zcX O' y (by rw [hkeys]; simpa using hy)]) hO hnd hu hp (by rw [zpr hkeys]; exact h)
theorem zop {P : Program} {Γ : Ctx} {N : Nat} {s : St} {dst : Option Tmp} {rest fp C k} {fop : Operand} {args : Array Operand} {ts : Array TypeId} {f caps} {ds : List D} {post : Out -> List (Nat × Ob) -> Nat -> Prop} (O : List (Nat × Ob))
  (hret : ∀ nx, s.next <= nx -> RetX P f ds O nx post) (hno : ∀ d o n, ¬ post (.val d) o n)
  (hf : zam (opd s fop) = some (f, caps)) (hc : zae P f = true) (hds : args.toList.map (opd s) ++ caps = ds) (hO : ∀ p ∈ O, getK s.obs p.1 = some p.2) (hp : zay dst s)
  (hx : ∀ env ch o n, s.next <= n -> post (.pan ch) o n -> ∃ s2, Wk Γ { n := s.n, env := env, obs := (s.obs.filter fun p => !(O.map (·.1)).contains p.1) ++ o, next := n } s2 /\ Γ.pan ch s2)
  (h : HD4 P Γ N rest (s.put dst .any) (fp ++ [([], [], 1)]) C k) :
  HD4 P Γ N (⟨dst, .call { callee := .value fop, args, argTypes := ts }, none⟩ :: rest) s fp C k := fun s0 e => by
 refine ⟨((.any, [], none, []), 1), by cases dst <;> simp_all [zay, e.1], ?_, fun x hx => (by cases hx), h _ (e.put dst .any)⟩;unfold Op4;rw [if_neg (by simp), if_pos rfl];refine ⟨rfl, fun s' hn ho hopd hnx o hop hg hpo => ?_, rfl, rfl⟩;obtain ⟨odst, oop, ot, opos, oaf, og⟩ := o;simp only at hop hg hpo;subst hop;subst hg;have hopS : ∀ x ∈ fop :: args.toList, opd s' x = opd s x := fun x hx => by
  rw [hopd x (by
   simp only [Op.operands, Call.operands];simp only [List.mem_cons] at hx;simp;rcases hx with rfl | hx
   ·exact .inl rfl
   ·exact .inr (by simpa using hx)), zeO e]
 have hOget : ∀ y, getK s'.obs y = getK s.obs y := fun y => by rw [ho, e.2.1]
 have hcall : CallP P Γ fop args.toList odst s' fun _ => False :=
  CallP.xF (s'.obs.filter fun p => !(O.map (·.1)).contains p.1) O (hret s'.next (by rw [<- e.2.2.1]; exact hnx)) (fun y => by
   rw [zab, zdl];by_cases hy : (O.map (·.1)).contains y = true
   ·rw [if_pos hy];obtain ⟨x, hx⟩ := zdD (l := O) (y := y) (by simpa using hy);rw [hx, hOget y, hO _ (zfH hx)]
   ·rw [if_neg hy, zcX O y (by simpa using hy)];cases getK s'.obs y <;> rfl) (fun y ob hy => by
   rw [zdl] at hy;by_cases hc : (O.map (·.1)).contains y = true
   ·rw [if_pos hc] at hy; cases hy
   ·exact zcX O y (by simpa using hc)) (by rw [hopS fop (by simp)]; exact hf) hc (by rw [List.map_congr_left fun x hx => hopS x (by simp [hx])]; exact hds) hpo
   (fun d o1 nx' _ hp => absurd hp (hno d o1 nx')) (fun ch o1 nx' hn' hp => by
     obtain ⟨s2, h1, h2⟩ := hx s'.env ch o1 nx' (by have := e.2.2.1; omega) hp;refine ⟨s2, fun K a w hin hs => h1 K a w hin (hs.eqo ⟨by simp [hn, e.1], fun y => ?_, rfl, fun _ => rfl⟩), h2⟩;simp only [zab, zdl, hOget])
 exact hcall ts ot opos oaf
theorem zoj {P : Program} {Γ : Ctx} {N : Nat} {all : Array Oper} {s0 : St} {ops : List Oper} {k : St -> Fp4 -> Prop} : ∀ (l : List O1) (tail : List Oper) (i : Nat) (E : Nat -> zuR), zbz all tail = some l -> (∀ j, tail[j]? = ops[i + j]?) ->
  zme P Γ N l (stE ops s0 (eE E) i) (tF4 E i) k -> ∃ E' : Nat -> zuR, (∀ j, j < i -> E' j = E j) /\
   (∀ j o, i <= j -> ops[j]? = some o -> zay o.dst s0 /\ (if (E' j).2 = 2 then tW (eE E') j = [] /\ tC (eE E') j = none else if (E' j).2 = 1 then o.guard = none /\ zv4 P Γ (stE ops s0 (eE E') j) o.op /\ tW (eE E') j = [] /\ tC (eE E') j = none else
     (E' j).2 = 0 /\ zw3 P N all (stE ops s0 (eE E') j) o (tT (eE E') j) (tW (eE E') j) (tC (eE E') j) (tR (eE E') j)) /\ ∀ x, tC (eE E') j = some x -> x = s0.next + cnt (eE E') j) /\
   k (stE ops s0 (eE E') (i + tail.length)) (tF4 E' (i + tail.length))
 | [], tail, i, E, hs, ht, h => by
  cases tail with
  | nil => exact ⟨E, fun _ _ => rfl, fun j o hj ho => by have := ht (j - i); rw [show i + (j - i) = j by omega, ho] at this; simp at this, by simpa [zme] using h⟩
  | cons x l => simp only [zbz] at hs; split at hs <;> simp at hs
 | o1 :: l, tail, i, E, hs, ht, h => by
  obtain ⟨x, tl, rfl, hx, hr⟩ := zgo hs;obtain ⟨e, hp, hv, hnx, hc⟩ := h;have hxi : ops[i]? = some x := by have := ht 0; simpa using this.symm
  have hdst : o1.dst = x.dst /\ o1.op = x.op := by
   unfold zda at hx;split at hx
   ·simp at hx; subst hx; exact ⟨rfl, rfl⟩
   ·split at hx
    ·simp at hx; subst hx; exact ⟨rfl, rfl⟩
    ·cases hx
  let E1 : Nat -> zuR := fun j => if j = i then e else E j
  have h1 : ∀ j, j < i -> E j = E1 j := fun j hj => by simp only [E1]; rw [if_neg (by omega)]
  have h1' : ∀ j, j < i -> eE E j = eE E1 j := fun j hj => by simp only [eE, h1 j hj]
  have hi : E1 i = e := by simp [E1]
  have hi' : eE E1 i = e.1 := by simp only [eE, hi]
  have zcq : (stE ops s0 (eE E) i).app o1.dst e.1 = stE ops s0 (eE E1) (i + 1) := by
   rw [zld h1', hdst.1];simp only [stE, St.app];rw [zl9 (tT (eE E1)) i ops 0 s0.env x (Nat.zero_le _) (by simpa using hxi)];have hw : zgm (tW (eE E1)) (fun _ => true) (i + 1) = e.1.2.1 ++ zgm (tW (eE E1)) (fun _ => true) i := by
    rw [zgm, if_pos rfl, show tW (eE E1) i = e.1.2.1 by simp only [tW, hi']]
   have hcn : cnt (eE E1) (i + 1) = cnt (eE E1) i + if e.1.2.2.1.isSome then 1 else 0 := by
    rw [cnt, show tC (eE E1) i = e.1.2.2.1 by simp only [tC, hi']]
   rw [hw, zfm, hcn];have hT : tT (eE E1) i = e.1.1 := by simp only [tT, hi']
   cases x.dst with
   | none => simp only [St.put, zzA]
   | some y => simp only [St.put, hT, zzA]
  have hfp : tF4 E i ++ [(e.1.2.2.2, ze6 e.1.2.1, e.2)] = tF4 E1 (i + 1) := by
   have hc1 : tF4 E i = tF4 E1 i := List.map_congr_left fun j hj => by
    have := h1 j (List.mem_range.1 hj);simp only [eE, tR, tW, this]
   rw [hc1];simp only [tF4, List.range_succ, List.map_append, zzC, zzD];rw [show tR (eE E1) i = e.1.2.2.2 by simp only [tR, hi'], show tW (eE E1) i = e.1.2.1 by simp only [tW, hi'], hi]
  rw [zcq, hfp] at hc;obtain ⟨E', g1, g2, g3⟩ := zoj l tl (i + 1) E1 hr (fun j => by have := ht (j + 1); rw [show i + 1 + j = i + (j + 1) by omega, <- this]; simp) hc;refine ⟨E', fun j hj => by rw [g1 j (by omega), h1 j hj], fun j o hj ho => ?_, ?_⟩
  ·rcases Nat.lt_or_ge i j with h' | h'
   ·exact g2 j o h' ho
   ·obtain rfl : i = j := by omega
    rw [hxi] at ho;cases ho;have hEi : E' i = e := by rw [g1 i (by omega), hi]
    have hEi' : eE E' i = e.1 := by simp only [eE, hEi]
    have hst : stE ops s0 (eE E') i = stE ops s0 (eE E) i := zld fun j hj => by simp only [eE]; rw [g1 j (by omega), <- h1 j hj]
    refine ⟨by rw [hdst.1] at hp; exact hp, ?_, fun y hy => ?_⟩
    ·rw [hst];simp only [tT, tW, tC, tR, hEi, hEi'];unfold Op4 at hv;by_cases c2 : e.2 = 2
     ·rw [if_pos c2] at hv ⊢;exact hv
     ·rw [if_neg c2] at hv ⊢;by_cases c1 : e.2 = 1
      ·rw [if_pos c1] at hv ⊢;obtain ⟨v1, v2, v3⟩ := hv;refine ⟨?_, by rw [<- hdst.2]; exact v2, v3⟩;unfold zda at hx;split at hx
       ·rename_i hg; exact hg
       ·split at hx
        ·simp at hx; subst hx; cases v1
        ·cases hx
      ·rw [if_neg c1] at hv ⊢;obtain ⟨v0, hv⟩ := hv;refine ⟨v0, ?_⟩;unfold zda at hx;unfold zw3;unfold zyY at hv;split at hx
       ·rename_i hg;simp at hx;subst hx
        try rw [hg]
        exact hv
       ·rename_i q want hg;split at hx
        ·rename_i t ht';simp at hx;subst hx
         try rw [hg]
         exact ⟨t, ht', hv⟩
        ·cases hx
    ·have : tC (eE E') i = e.1.2.2.1 := by simp only [tC, hEi']
     rw [this] at hy;have := hnx y hy;rw [this, ziY (eE E') (eE E) i fun j hj => by simp only [eE]; rw [g1 j (by omega), <- h1 j hj]]
     try rfl
  ·rw [show i + (x :: tl).length = i + 1 + tl.length by simp; omega];exact g3
def zuy (ops : List Oper) (fp : Fp4) : Bool :=
 okP ops (fp.map fun p => (p.1, p.2.1)) &&
 (List.range ops.length).all fun j => ((fp.getD j ([], [], 0)).2.2 != 2 || (List.range ops.length).any fun p => (fp.getD p ([], [], 0)).2.2 == 1 && zgD ops ops.length p j) &&
   ((fp.getD j ([], [], 0)).2.2 != 1 || (List.range ops.length).all fun i => (fp.getD i ([], [], 0)).2.1.isEmpty || zgD ops ops.length i j || zgD ops ops.length j i)
theorem zuo {P Γ s} {R0 : Exit -> St -> Prop} {l : List Oper} (hord : zoQ l = true) (hn0 : Γ.n0 <= s.next)
  (h : ∀ (C : Fp4 -> Prop) (k : St -> Prop), (∀ fp, zuy l fp = true -> C fp) -> (∀ s', R0 .normal s' -> k s') -> match zbz l.toArray l with | some l' => HD4 P Γ s.next l' s [] C k | none => False) :
  VA P Γ l s R0 := by
 have := h (fun fp => zuy l fp = true) _ (fun _ h => h) fun _ h => h;split at this
 ·rename_i l' hl;have h0 : stE l s (eE fun _ => default) 0 = s := by
   have hnone : ∀ (l : List Oper) (i : Nat) (e : List (Nat × D)), zgY (tT (eE fun _ => default)) (fun j => decide (j < 0)) l i e = e := by
    intro l
    induction l with
    | nil => intro i e; rfl
    | cons o l ih => intro i e; exact ih (i + 1) e
   simp only [stE, hnone]
   try rfl
  have hc := this s (.refl s);rw [<- h0] at hc;obtain ⟨E, _, h2, hok, hfin⟩ := zoj l' l 0 (fun _ => default) hl (fun j => by rw [Nat.zero_add]) hc;rw [Nat.zero_add] at hok hfin;simp only [zuy, Bool.and_eq_true] at hok;obtain ⟨hok1, hok2⟩ := hok;have hlen4 : ∀ i, i < l.length -> (tF4 E l.length).getD i ([], [], 0) = (tR (eE E) i, ze6 (tW (eE E) i), (E i).2) := fun i hi => by
   simp [tF4, hi]
  have hlen : ∀ i, i < l.length -> ((tF4 E l.length).map fun p => (p.1, p.2.1)).getD i ([], []) = (tR (eE E) i, ze6 (tW (eE E) i)) := fun i hi => by
   simp [tF4, hi]
  have mono : ∀ i j, i <= j -> cnt (eE E) i <= cnt (eE E) j := fun i j hij => by
   induction hij with
   | refl => exact Nat.le_refl _
   | step _ ih => simp only [cnt]; omega
  have hcr : ∀ i x, i < l.length -> tC (eE E) i = some x -> x = s.next + cnt (eE E) i /\ cnt (eE E) (i + 1) = cnt (eE E) i + 1 := fun i x hi hx => by
   have := (h2 i _ (Nat.zero_le _) (List.getElem?_eq_getElem hi)).2.2 x hx;exact ⟨this, by simp only [cnt, hx]; rfl⟩
  let cr : Nat -> Option Nat := fun i => if i < l.length then tC (eE E) i else none
  let kd : Nat -> Nat := fun i => if i < l.length then (E i).2 else 0
  let W : Nat -> Wr := fun i => if i < l.length then tW (eE E) i else []
  have hWe : ∀ i, i < l.length -> W i = tW (eE E) i := fun i hi => by simp only [W]; rw [if_pos hi]
  refine zup (T := tT (eE E)) (W := W) (cr := cr) (R := tR (eE E)) (kd := kd) (M := s.next + cnt (eE E) l.length) hord hn0 (by omega) (fun i x hx => ?_) (fun i j x hi hj => ?_) (fun i j hij hj hb => ?_) (fun i hk => ?_) (fun p i hp hi hw => ?_) (fun i o ho => ?_) (fun hnk => ?_)
  ·simp only [cr] at hx;split at hx
   ·rename_i hi;obtain ⟨e1, e2⟩ := hcr i x hi hx;have := mono (i + 1) l.length hi;omega
   ·cases hx
  ·simp only [cr] at hi hj;split at hi
   ·rename_i hil;split at hj
    ·rename_i hjl;obtain ⟨e1, e2⟩ := hcr i x hil hi;obtain ⟨e3, e4⟩ := hcr j x hjl hj;rcases Nat.lt_trichotomy i j with hlt | hlt | hlt
     ·have := mono (i + 1) j hlt;omega
     ·exact hlt
     ·have := mono (j + 1) i hlt;omega
    ·cases hj
   ·cases hi
  ·have := (List.all_eq_true.1 ((List.all_eq_true.1 hok1) j (List.mem_range.2 hj))) i (List.mem_range.2 hij);rw [hb, hlen i (by omega), hlen j hj] at this;simp only [Bool.false_or, Bool.and_eq_true] at this;rw [hWe i (by omega), hWe j hj];refine ⟨fun y hy => ?_, fun y hy => zma this.2 y hy⟩;have := zma this.1 y hy;rw [List.mem_append, not_or] at this;exact this
  ·simp only [kd] at hk;split at hk
   ·rename_i hi;obtain ⟨_, g2, _⟩ := h2 i _ (Nat.zero_le _) (List.getElem?_eq_getElem hi);have hci : cr i = tC (eE E) i := by simp only [cr]; rw [if_pos hi]
    rw [hWe i hi, hci];by_cases c2 : (E i).2 = 2
    ·rw [if_pos c2] at g2; exact g2
    ·rw [if_neg c2] at g2;by_cases c1 : (E i).2 = 1
     ·rw [if_pos c1] at g2; exact g2.2.2
     ·rw [if_neg c1] at g2; exact absurd g2.1 hk
   ·exact absurd rfl hk
  ·simp only [kd] at hp;split at hp
   ·rename_i hpl;have := (List.all_eq_true.1 hok2) p (List.mem_range.2 hpl);rw [Bool.and_eq_true, hlen4 p hpl] at this;have h3 := this.2;simp only [hp] at h3;have h4 : ((List.range l.length).all fun i => ((tF4 E l.length).getD i ([], [], 0)).2.1.isEmpty || zgD l l.length i p || zgD l l.length p i) = true := by simpa using h3
    have h5 := (List.all_eq_true.1 h4) i (List.mem_range.2 hi);rw [hlen4 i hi] at h5;simp only [Bool.or_eq_true] at h5;rcases h5 with (h5 | h5) | h5
    ·exfalso;apply hw;rw [hWe i hi];have : ze6 (tW (eE E) i) = [] := by simpa using h5
     simpa [ze6] using this
    ·exact .inl h5
    ·exact .inr h5
   ·cases hp
  ·have hi := (List.getElem?_eq_some_iff.1 ho).1;obtain ⟨g1, g2, g3⟩ := h2 i o (Nat.zero_le _) ho;refine ⟨g1, ?_⟩;have hwl : ∀ S m, m <= l.length -> zgm W S m = zgm (tW (eE E)) S m := fun S m hm => ze7 W (tW (eE E)) S m fun j hj => hWe j (by omega);have hst : stW l (tT (eE E)) W s (s.next + cnt (eE E) l.length) (fun j => decide (j < i)) = { stE l s (eE E) i with next := s.next + cnt (eE E) l.length } := by
    simp only [stW, stE];rw [hwl _ _ (Nat.le_refl _), zk0 (tW (eE E)) i l.length (by omega)]
   have hcri : cr i = tC (eE E) i := by simp only [cr]; rw [if_pos hi]
   have hkdi : kd i = (E i).2 := by simp only [kd]; rw [if_pos hi]
   rw [hst, hcri, hkdi, hWe i hi];have opo : ∀ x, opd { stE l s (eE E) i with next := s.next + cnt (eE E) l.length } x = opd (stE l s (eE E) i) x := fun x => by cases x <;> rfl
   have eqo : ∀ (op : Op) (r : D -> Prop), valD P { stE l s (eE E) i with next := s.next + cnt (eE E) l.length } op r = valD P (stE l s (eE E) i) op r := fun op r => zoy rfl fun x _ => by cases x <;> rfl
   have ero : ∀ (op : Op), zcl { stE l s (eE E) i with next := s.next + cnt (eE E) l.length } op = zcl (stE l s (eE E) i) op := fun op => by
    have e : opd { stE l s (eE E) i with next := s.next + cnt (eE E) l.length } = opd (stE l s (eE E) i) := funext fun x => by cases x <;> rfl
    unfold zcl zbG zcm;rw [e]
   have efo : ∀ (op : Op) (r : ERes -> Prop), effD P { stE l s (eE E) i with next := s.next + cnt (eE E) l.length } op r = effD P (stE l s (eE E) i) op r := fun op r =>
    propext ⟨zgZ (fun _ _ => rfl) fun x _ => by cases x <;> rfl, zgZ (fun _ _ => rfl) fun x _ => by cases x <;> rfl⟩
   have hle : (stE l s (eE E) i).next <= s.next + cnt (eE E) l.length := by
    have := mono i l.length (by omega);simp only [stE]; omega
   have cao : ∀ (op : Op) (d : D) (W : Wr) (R : List Nat), zwc P s.next (stE l s (eE E) i) op d W R -> zwc P s.next { stE l s (eE E) i with next := s.next + cnt (eE E) l.length } op d W R :=
    fun op d W R ⟨fop, args, f, caps, O, O', L, q1, q2, q3, q4, q5, q6, q6b, q7, q8, q9, q10⟩ => ⟨fop, args, f, caps, O, O', L, q1, by rw [opo]; exact q2, q3, q4, q5, q6, q6b, q7, q8, q9, fun nx hnx => by
     rw [List.map_congr_left fun x _ => opo x];exact q10 nx (Nat.le_trans hle hnx)⟩
   have c1x : ∀ (op : Op) (dst : Option Tmp) (d : D) (W : Wr) (cr : Option Nat) (R : List Nat), zv7 P s.next (stE l s (eE E) i) op dst d W cr R -> zv7 P s.next { stE l s (eE E) i with next := s.next + cnt (eE E) l.length } op dst d W cr R :=
    fun op dst d W cr R h => by
     rcases h with h | ⟨h, hc⟩ | ⟨fop, args, f, caps, O, e, nb, x0, q1, q2, q3, q4, q5, q6, q7, q8⟩
     ·left;unfold Op1 at h ⊢;simp only [eqo, ero, efo];exact h
     ·exact .inr (.inl ⟨cao _ _ _ _ h, hc⟩)
     ·exact .inr (.inr ⟨fop, args, f, caps, O, e, nb, x0, q1, by rw [opo]; exact q2, q3, q4, q5, q6, q7, fun nx hnx => by
       rw [List.map_congr_left fun x _ => opo x];exact q8 nx (Nat.le_trans hle hnx)⟩)
   by_cases k2 : (E i).2 = 2
   ·rw [if_pos k2];have := (List.all_eq_true.1 hok2) i (List.mem_range.2 hi);rw [Bool.and_eq_true, hlen4 i hi] at this;have h3 := this.1;simp only [k2] at h3;have h4 : ((List.range l.length).any fun p => ((tF4 E l.length).getD p ([], [], 0)).2.2 == 1 && zgD l l.length p i) = true := by simpa using h3
    obtain ⟨p, hp, h5⟩ := List.any_eq_true.1 h4;have hpl := List.mem_range.1 hp;rw [hlen4 p hpl, Bool.and_eq_true] at h5;exact ⟨p, by simp only [kd]; rw [if_pos hpl]; simpa using h5.1, hpl, h5.2⟩
   ·rw [if_neg k2] at g2 ⊢;by_cases k1 : (E i).2 = 1
    ·rw [if_pos k1] at g2 ⊢;refine ⟨g2.1, fun s' a1 a2 a3 a4 => g2.2.1 s' a1 a2 (fun x hx => by rw [a3 x hx, opo]) (Nat.le_trans hle a4)⟩
    ·rw [if_neg k1] at g2 ⊢;obtain ⟨_, g2⟩ := g2;unfold zw3 at g2 ⊢;split
     ·rename_i hg; rw [hg] at g2; exact c1x _ _ _ _ _ _ g2
     ·rename_i j want hg;rw [hg] at g2;obtain ⟨t, ht, g2⟩ := g2;refine ⟨t, ht, ?_⟩;rcases g2 with ⟨b, hb, g2⟩ | g2
      ·refine .inl ⟨b, hb, ?_⟩;split
       ·rename_i hbw; rw [if_pos hbw] at g2; exact c1x _ _ _ _ _ _ g2
       ·rename_i hbw; rw [if_neg hbw] at g2; exact g2
      ·exact .inr g2
  ·obtain ⟨s', h3, h4⟩ := hfin fun p hp => by
    obtain ⟨i, hi, rfl⟩ := List.mem_map.1 hp;have hil := List.mem_range.1 hi;have := hnk i hil;simp only [kd] at this;rw [if_pos hil] at this;exact this
   refine ⟨s', St.Eqo.trans (b := stE l s (eE E) l.length) ⟨rfl, fun x => ?_, rfl, fun x => ?_⟩ h3, h4⟩
   ·simp only [stW, stE];rw [ze7 W (tW (eE E)) (fun _ => true) l.length fun j hj => hWe j hj]
   ·simp only [stW, stE];exact zej (tT (eE E)) _ _ x l 0 s.env s.env rfl fun j o hj _ => by
     have := (List.getElem?_eq_some_iff.1 hj).1;simp [this]
 ·exact this.elim
theorem zeR {P Γ s} {Q : Exit -> St -> Prop} {kt : Kt} {id : Nat} {l : List Oper} (hm : P.follows .mixedOrders = true) (hord : zoQ l = true) (hn0 : Γ.n0 <= s.next)
  (h : ∀ (C : Fp4 -> Prop) (k : St -> Prop), (∀ fp, zuy l fp = true -> C fp) -> (∀ s', zbf P Γ Q kt .normal s' -> k s') -> match zbz l.toArray l with | some l' => HD4 P Γ s.next l' s [] C k | none => False) :
  V P Γ (.region id l.toArray true) s (zbf P Γ Q kt) := fun K a w hin hs => by
 refine wp_region_any hm ?_;exact zuo (R0 := zbf P Γ Q kt) hord hn0 h K a w hin hs
end Go.VL
namespace Go.VL
open Go
def zll (ids : List Nat) (nx k : Nat) : Nat := match ids[k]? with | some x => x | none => nx + (k - ids.length)
theorem zs2 {ids : List Nat} {nx : Nat} (hd : ids.Nodup) (hlt : ∀ x ∈ ids, x < nx) {a b : Nat} (h : zll ids nx a = zll ids nx b) : a = b := by
 unfold zll at h;rcases ha : ids[a]? with _ | x <;> rcases hb : ids[b]? with _ | y <;> rw [ha, hb] at h <;> simp only at h
 ·have := List.getElem?_eq_none_iff.1 ha;have := List.getElem?_eq_none_iff.1 hb;omega
 ·have := hlt y (List.mem_of_getElem? hb);omega
 ·have := hlt x (List.mem_of_getElem? ha);omega
 ·obtain ⟨h1, h2⟩ := List.getElem?_eq_some_iff.1 ha;obtain ⟨h3, h4⟩ := List.getElem?_eq_some_iff.1 hb;rw [List.nodup_iff_pairwise_ne, List.pairwise_iff_getElem] at hd;rcases Nat.lt_trichotomy a b with hlt' | hlt' | hlt'
  ·exact absurd (h2.trans (h.trans h4.symm)) (hd a b h1 h3 hlt')
  ·exact hlt'
  ·exact absurd (h2.trans (h.trans h4.symm)).symm (hd b a h3 h1 hlt')
inductive KL (ids : List Nat) (nx : Nat) : List Nat -> List Nat -> Prop
 | nil : KL ids nx [] []
 | cons (k : Nat) {x l l0} (h : zll ids nx k = x) (t : KL ids nx l l0) : KL ids nx (x :: l) (k :: l0)
theorem KL.map {ids nx l l0} (h : KL ids nx l l0) : l = l0.map (zll ids nx) := by
 induction h with
 | nil => rfl
 | cons k h t ih => rw [zzC, h, <- ih]
inductive KF (ids : List Nat) (nx : Nat) : Fp4 -> Fp4 -> Prop
 | nil : KF ids nx [] []
 | cons {a a0 b b0 k fp fp0} (h1 : KL ids nx a a0) (h2 : KL ids nx b b0) (h3 : KF ids nx fp fp0) : KF ids nx ((a, b, k) :: fp) ((a0, b0, k) :: fp0)
theorem KF.map {ids nx l l0} (h : KF ids nx l l0) : l = l0.map fun p => (p.1.map (zll ids nx), p.2.1.map (zll ids nx), p.2.2) := by
 induction h with
 | nil => rfl
 | cons h1 h2 _ ih => rw [zzC, <- h1.map, <- h2.map, <- ih]
theorem zrO {ρ : Nat -> Nat} (hρ : ∀ a b, ρ a = ρ b -> a = b) (a b : List Nat) : zpx (a.map ρ) (b.map ρ) = zpx a b := by
 unfold zpx;rw [List.all_map]
 congr 1
 funext y;simp only [Function.comp]
 congr 1
 rw [Bool.eq_iff_iff];simp only [List.contains_eq_mem, decide_eq_true_eq, List.mem_map];exact ⟨fun ⟨z, h1, h2⟩ => hρ _ _ h2 ▸ h1, fun h => ⟨y, h, rfl⟩⟩
theorem zb1 {ops : List Oper} {fp : Fp4} (ids : List Nat) (nx : Nat) (hd : ids.Nodup) (hlt : ∀ x ∈ ids, x < nx) (h : ∃ fp0, KF ids nx fp fp0 /\ zuy ops fp0 = true) : zuy ops fp = true := by
 obtain ⟨fp0, hk, h⟩ := h;have hr := hk.map;subst hr;have hρ : ∀ a b, zll ids nx a = zll ids nx b -> a = b := fun a b => zs2 hd hlt;have g4 : ∀ i, (fp0.map fun p => (p.1.map (zll ids nx), p.2.1.map (zll ids nx), p.2.2)).getD i ([], [], 0) = (((fp0.getD i ([], [], 0)).1.map (zll ids nx), (fp0.getD i ([], [], 0)).2.1.map (zll ids nx), (fp0.getD i ([], [], 0)).2.2)) := fun i => by
  simp only [List.getD_eq_getElem?_getD, List.getElem?_map];cases fp0[i]? <;> rfl
 have g2 : ∀ i, ((fp0.map fun p => (p.1.map (zll ids nx), p.2.1.map (zll ids nx), p.2.2)).map fun p => (p.1, p.2.1)).getD i ([], []) =
   ((((fp0.map fun p => (p.1, p.2.1)).getD i ([], [])).1.map (zll ids nx), ((fp0.map fun p => (p.1, p.2.1)).getD i ([], [])).2.map (zll ids nx))) := fun i => by
  simp only [List.getD_eq_getElem?_getD, List.getElem?_map];cases fp0[i]? <;> rfl
 unfold zuy okP at h ⊢;simp only [g4, g2, <- List.map_append, zrO hρ, List.isEmpty_map] at h ⊢;exact h
theorem zi9 {P : Program} {Γ : Ctx} {N : Nat} {s : St} {dst : Option Tmp} {rest fp C k} {fop : Operand} {args : Array Operand} {ts : Array TypeId} {f caps} {ds : List D} {d : D} {j : Nat} {ob ob' : Ob}
  (hret : ∀ nx, s.next <= nx -> RetX P f ds [(j, ob)] nx fun r o n => r = .val d /\ o = [(j, ob')] /\ n = nx)
  (hj : getK s.obs j = some ob) (hf : zam (opd s fop) = some (f, caps)) (hc : zae P f = true) (hds : args.toList.map (opd s) ++ caps = ds)
  (hu : d.under N = true /\ ob'.under N = true) (hp : zay dst s)
  (h : HD4 P Γ N rest (({ s with obs := zar [(j, some ob')] s.obs } : St).put dst d) (fp ++ [([j], [j], 0)]) C k) :
  HD4 P Γ N (⟨dst, .call { callee := .value fop, args, argTypes := ts }, none⟩ :: rest) s fp C k :=
 zor [(j, ob)] [(j, ob')] (fun nx hnx => (hret nx hnx).mono fun r o n ⟨h1, h2, h3⟩ => ⟨h1, fun y => by rw [h2], h3⟩) hf hc hds rfl (by simpa using hj) (by simp) ⟨hu.1, by simpa using hu.2⟩ hp h
theorem zg8 {P : Program} {Γ : Ctx} {N : Nat} {s : St} {dst : Option Tmp} {rest fp C k} {fop : Operand} {args : Array Operand} {ts : Array TypeId} {f caps} {ds : List D} {j : Nat} {ob : Ob} {ch : List PanicEntry} {p : Ob -> Prop}
  (hret : ∀ nx, s.next <= nx -> RetX P f ds [(j, ob)] nx fun r o n => r = .pan ch /\ (∃ ob', p ob' /\ o = [(j, ob')]) /\ n = nx)
  (hj : getK s.obs j = some ob) (hf : zam (opd s fop) = some (f, caps)) (hc : zae P f = true) (hds : args.toList.map (opd s) ++ caps = ds) (hp : zay dst s)
  (hx : ∀ env ob' n, s.next <= n -> p ob' -> ∃ s2, Wk Γ { n := s.n, env := env, obs := del s.obs j ++ [(j, ob')], next := n } s2 /\ Γ.pan ch s2)
  (h : HD4 P Γ N rest (s.put dst .any) (fp ++ [([], [], 1)]) C k) :
  HD4 P Γ N (⟨dst, .call { callee := .value fop, args, argTypes := ts }, none⟩ :: rest) s fp C k := by
 have hfil : (s.obs.filter fun p => !(([(j, ob)] : List (Nat × Ob)).map (·.1)).contains p.1) = del s.obs j := by
  unfold del
  congr 1
  funext p;simp only [zzC, zzD, List.contains_cons, List.contains_nil, Bool.or_false]
 refine zop (post := fun r o _ => r = .pan ch /\ ∃ ob', p ob' /\ o = [(j, ob')]) [(j, ob)] (fun nx hnx => (hret nx hnx).mono fun r o n ⟨h1, h2, _⟩ => ⟨h1, h2⟩) (fun d o n h => by cases h.1) hf hc hds (by simpa using hj) hp (fun env ch' o n hn h => ?_) h;obtain ⟨h1, ob', h2, rfl⟩ := h;cases h1;rw [hfil];exact hx env ob' n hn h2
theorem zfQ {P Γ N s dst op g rest fp C k} (_ : (fp.any fun p => p.2.2 == 1) = true) (hp : zay dst s) (h : HD4 P Γ N rest (s.put dst .any) (fp ++ [([], [], 2)]) C k) : HD4 P Γ N (⟨dst, op, g⟩ :: rest) s fp C k := zoq hp h
theorem FinOK.cut {n0 : Nat} {post : D -> List (Nat × Ob) -> Nat -> Prop} {s : St} {d : D} (obs : List (Nat × Ob)) (N : Nat) (ho : ∀ p ∈ obs, getK s.obs p.1 = some p.2 /\ p.1 < N /\ p.2.under N = true) (hd : d.under N = true) (hn : n0 <= N)
  (h : post d obs N) : FinOK n0 post s d :=
 .inl ⟨{ s with env := [], obs := obs, next := N }, fun i => i, d, ⟨rfl, fun x d' hx => by simp [getK] at hx, fun x d' hx => by simp [getK] at hx,
  fun i ob hi => ⟨(ho _ (zgz hi)).2.1, ob, (ho _ (zgz hi)).1, Ob.le_id ob, (ho _ (zgz hi)).2.2⟩, fun _ _ _ _ _ _ h => h, fun i hi => ⟨rfl, Nat.lt_of_lt_of_le hi hn⟩⟩, D.le_id d, hd, hn, h⟩
def zwB : D -> Bool
 | .vec .. => true
 | _ => false
theorem zcY {P : Program} {Γ : Ctx} {s : St} {k : St -> Prop} {dst : Option Tmp} {fop : Operand} {args : List Operand} (_ : (args.map (opd s)).any zwB = true) (h : CallP P Γ fop args dst (frzN 1 s) k) : CallP P Γ fop args dst s k :=
 zhb (Wk.frzN 1 _) h
theorem zbp {P : Program} {Γ : Ctx} {s s' : St} {k : St -> Prop} {dst : Option Tmp} {fop : Operand} {args : List Operand} (_ : (args.map (opd s)).any zwB = true) (e : frzN 1 s = s') (h : CallP P Γ fop args dst s' k) : CallP P Γ fop args dst s k := zhb (e ▸ Wk.frzN 1 _) h
end Go.VL
namespace Go.VL
open Go
def zcZ {α : Type} (obs : List (Nat × α)) : List Nat -> List (Nat × α)
 | [] => obs
 | i :: l => zcZ (del obs i) l
theorem zfj {α : Type} : ∀ (l : List Nat) (obs : List (Nat × α)), zcZ obs l = obs.filter fun p => !l.contains p.1
 | [], obs => by rw [zcZ]; exact (List.filter_eq_self.2 (by simp)).symm
 | i :: l, obs => by
  rw [zcZ, zfj l, del, List.filter_filter]
  congr 1
  funext p;simp only [List.contains_cons];cases p.1 == i <;> cases l.contains p.1 <;> rfl
theorem zkI {obs O : List (Nat × Ob)} (hO : ∀ p ∈ O, getK obs p.1 = some p.2) (i : Nat) : getK obs i = getK (zcZ obs (O.map (·.1)) ++ O) i := by
 rw [zfj, zab, zdl];by_cases hy : (O.map (·.1)).contains i = true
 ·rw [if_pos hy];obtain ⟨x, hx⟩ := zdD (l := O) (y := i) (by simpa using hy);rw [hx, hO _ (zfH hx)]
 ·rw [if_neg hy, zcX O i (by simpa using hy)];cases getK obs i <;> rfl
theorem ziW {obs O : List (Nat × Ob)} (i : Nat) (ob : Ob) (h : getK (zcZ obs (O.map (·.1))) i = some ob) : getK O i = none := by
 rw [zfj, zdl] at h;by_cases hc : (O.map (·.1)).contains i = true
 ·rw [if_pos hc] at h; cases h
 ·exact zcX O i (by simpa using hc)
theorem CallP.okL {P : Program} {Γ : Ctx} {s : St} {k : St -> Prop} {dst : Option Tmp} {fop : Operand} {args : List Operand} {f caps} {ds : List D} {O O' : List (Nat × Ob)} {d : D} {N : Nat}
  (hret : RetX P f ds O s.next fun r o n => r = .val d /\ o = O' /\ n = N) (hO : ∀ p ∈ O, getK s.obs p.1 = some p.2)
  (hf : zam (opd s fop) = some (f, caps)) (hc : zae P f = true) (hds : args.map (opd s) ++ caps = ds) (hp : zay dst s)
  (hk : k (({ s with obs := zcZ s.obs (O.map (·.1)) ++ O', next := N } : St).put dst d)) : CallP P Γ fop args dst s k :=
 CallP.xF (zcZ s.obs (O.map (·.1))) O hret (zkI hO) ziW hf hc hds hp (fun d' o1 nx' _ ⟨h1, h2, h3⟩ => by cases h1; subst h2; subst h3; exact hk) (fun ch o1 nx' _ ⟨h1, _⟩ => by cases h1)
theorem CallP.zkV {P : Program} {Γ : Ctx} {s : St} {k : St -> Prop} {dst : Option Tmp} {fop : Operand} {args : List Operand} {f caps} {ds : List D} {O O' : List (Nat × Ob)} {ch : List PanicEntry}
  (hret : RetX P f ds O s.next fun r o n => r = .pan ch /\ o = O' /\ n = s.next) (hO : ∀ p ∈ O, getK s.obs p.1 = some p.2)
  (hf : zam (opd s fop) = some (f, caps)) (hc : zae P f = true) (hds : args.map (opd s) ++ caps = ds) (hp : zay dst s)
  (hx : ∃ s2, Wk Γ { s with obs := zcZ s.obs (O.map (·.1)) ++ O', next := s.next } s2 /\ Γ.pan ch s2) : CallP P Γ fop args dst s k :=
 CallP.xF (zcZ s.obs (O.map (·.1))) O hret (zkI hO) ziW hf hc hds hp (fun d' o1 nx' _ ⟨h1, _⟩ => by cases h1) (fun ch' o1 nx' _ ⟨h1, h2, h3⟩ => by cases h1; subst h2; subst h3; exact hx)
theorem zsu {P : Program} {Γ : Ctx} {N : Nat} {s : St} {dst : Option Tmp} {rest fp C k} {fop : Operand} {args : Array Operand} {ts : Array TypeId} {f caps} {ds : List D} {d : D} {O O' : List (Nat × Ob)}
  (hret : ∀ nx, s.next <= nx -> RetX P f ds O nx fun r o n => r = .val d /\ o = O' /\ n = nx)
  (hO : ∀ p ∈ O, getK s.obs p.1 = some p.2) (hkeys : O'.map (·.1) = O.map (·.1)) (hnd : (O.map (·.1)).Nodup)
  (hf : zam (opd s fop) = some (f, caps)) (hc : zae P f = true) (hds : args.toList.map (opd s) ++ caps = ds)
  (hu : d.under N = true /\ ∀ p ∈ O', p.2.under N = true) (hp : zay dst s)
  (h : HD4 P Γ N rest (({ s with obs := zar (O'.map fun p => (p.1, some p.2)) s.obs } : St).put dst d) (fp ++ [(O.map (·.1), O'.map (·.1), 0)]) C k) :
  HD4 P Γ N (⟨dst, .call { callee := .value fop, args, argTypes := ts }, none⟩ :: rest) s fp C k :=
 zor O O' (fun nx hnx => (hret nx hnx).mono fun r o n ⟨h1, h2, h3⟩ => ⟨h1, fun y => by rw [h2], h3⟩) hf hc hds hkeys hO hnd hu hp h
theorem zi8 {P : Program} {Γ : Ctx} {N : Nat} {s : St} {dst : Option Tmp} {rest fp C k} {fop : Operand} {args : Array Operand} {ts : Array TypeId} {f caps} {ds : List D} {d : D} {j : Nat} {ob ob' : Ob} {F : List (Nat × Ob)}
  (hret : ∀ nx, s.next <= nx -> RetX P f ds ((j, ob) :: F) nx fun r o n => r = .val d /\ (∀ y, getK o y = getK ((j, ob') :: F) y) /\ n = nx)
  (hO : ∀ p ∈ (j, ob) :: F, getK s.obs p.1 = some p.2) (hnd : (((j, ob) :: F).map (·.1)).Nodup)
  (hf : zam (opd s fop) = some (f, caps)) (hc : zae P f = true) (hds : args.toList.map (opd s) ++ caps = ds)
  (hu : d.under N = true /\ ∀ p ∈ (j, ob') :: F, p.2.under N = true) (hp : zay dst s)
  (h : HD4 P Γ N rest (({ s with obs := zar [(j, some ob')] s.obs } : St).put dst d) (fp ++ [(j :: F.map (·.1), [j], 0)]) C k) :
  HD4 P Γ N (⟨dst, .call { callee := .value fop, args, argTypes := ts }, none⟩ :: rest) s fp C k := by
 have hj : ∀ p ∈ F, ¬ p.1 = j := fun p hp e => by
  rw [zzC, List.nodup_cons] at hnd;exact hnd.1 (List.mem_map.2 ⟨p, hp, e⟩)
 have hfl : (((j, ob') :: F).filter fun p => [j].contains p.1) = [(j, ob')] := by
  rw [List.filter_cons, if_pos (by simp)]
  congr 1
  refine List.filter_eq_nil_iff.2 fun p hp => ?_;have := hj p hp;simp only [List.contains_cons, List.contains_nil, Bool.or_false, beq_iff_eq];exact this
 refine zmu ((j, ob) :: F) ((j, ob') :: F) [j] hret hf hc hds rfl (fun y hy => ?_) hO hnd hu hp ?_
 ·have : ¬ y = j := fun e => by subst e; simp at hy
  rw [zaa, zaa, if_neg this, if_neg this]
 ·rw [hfl];exact h
theorem zib {P : Program} {Γ : Ctx} {N : Nat} {s : St} {dst : Option Tmp} {rest fp C k} {fop : Operand} {args : Array Operand} {ts : Array TypeId} {f caps} {ds : List D} {O O' : List (Nat × Ob)} {ch : List PanicEntry}
  (hret : ∀ nx, s.next <= nx -> RetX P f ds O nx fun r o n => r = .pan ch /\ o = O' /\ n = nx)
  (hO : ∀ p ∈ O, getK s.obs p.1 = some p.2)
  (hf : zam (opd s fop) = some (f, caps)) (hc : zae P f = true) (hds : args.toList.map (opd s) ++ caps = ds) (hp : zay dst s)
  (hx : ∀ env n, s.next <= n -> ∃ s2, Wk Γ { n := s.n, env := env, obs := zcZ s.obs (O.map (·.1)) ++ O', next := n } s2 /\ Γ.pan ch s2)
  (h : HD4 P Γ N rest (s.put dst .any) (fp ++ [([], [], 1)]) C k) :
  HD4 P Γ N (⟨dst, .call { callee := .value fop, args, argTypes := ts }, none⟩ :: rest) s fp C k := by
 refine zop (post := fun r o _ => r = .pan ch /\ o = O') O (fun nx hnx => (hret nx hnx).mono fun r o n ⟨h1, h2, _⟩ => ⟨h1, h2⟩) (fun d o n h => by cases h.1) hf hc hds hO hp (fun env ch' o n hn h => ?_) h;obtain ⟨h1, rfl⟩ := h;cases h1;rw [<- zfj];exact hx env n hn
theorem zms {P Γ N s dst c g rest fp C k} (_ : (fp.any fun p => p.2.2 == 1) = true) (hp : zay dst s) (h : HD4 P Γ N rest (s.put dst .any) (fp ++ [([], [], 2)]) C k) : HD4 P Γ N (⟨dst, .call c, g⟩ :: rest) s fp C k := zoq hp h
theorem LeaveD.of {P : Program} {Γb : Ctx} {fn : Func} {post : Out -> List (Nat × Ob) -> Nat -> Prop} {g : FuncId} {caps : List D} {u : FrameMode} {s : St} (O : List (Nat × Ob)) {O' : List (Nat × Ob)} (hO : ∀ p ∈ O, getK s.obs p.1 = some p.2)
  (h : RetDf P g caps O s.next u fun u' o n => settle u' = .returning /\ n = s.next /\ o = O') (hk : EndW P Γb fn Γb.n0 (fun d o n => post (.val d) o n) .ret { s with obs := zcZ s.obs (O.map (·.1)) ++ O', next := s.next }) :
  LeaveD P Γb fn post g caps u s :=
 ((h.frame (zcZ s.obs (O.map (·.1))) ziW).congr (zkI hO)).mono fun u' o n ⟨o1, ho, hs, hn, ho1⟩ => ⟨hs, by subst ho; subst ho1; subst hn; exact hk⟩
theorem nef {i nx : Nat} (h : i < nx) : ¬ i = nx /\ ¬ nx = i /\ (∀ k, ¬ i = nx + k) /\ ∀ k, ¬ nx + k = i := ⟨by omega, by omega, fun k => by omega, fun k => by omega⟩
end Go.VL
namespace Go.VL
open Go
open Go.ChangeShapes Go.WideShapes Go.ChangeAt Go.WideMaps Go.WideElems Go.RowKit
theorem ztp {H : Type} {enc : TypeId × Value -> H} {C : Checked} {os : Os} {f : FuncId} {fn : Func} {s : ChangeSpec} {conds : List PathCond} {apart fresh handsOn again : Bool} {tb : TypeId} {laid : List (String × DataW Unit)}
  (own : ownKnob C.prog.godebug = none) (started : os.Started) (noInit : C.prog.inits.idxOf? f = none) (hfn : C.prog.funcs[f]? = some fn)
  (witness : ∃ (w : World) (tape : Tape) (i : Input), w.os = os /\ (w.forCall tape i).Shaped C.prog /\ i.vars = [] /\ Input.okWide C.prog (w.forCall tape i) .any w.heap.size f i /\
    ((s.pre enc C.prog fn conds apart (w.forCall tape i).memory i.args /\ laidMetH C.prog laid (w.forCall tape i).memory) /\ sizedMet enc C.prog fn (OpenSpec.ofChange s) apart (w.forCall tape i).memory i.args) /\ (({} : Assume)).holds C.prog (lone (Frame.enter C.prog f i.args .normal) [] (w.forCall tape i)))
  (hl : laidOutB C.prog = true) (hseq : zjC C.prog = true) (hpar : (fn.params.toList.all fun t => C.prog.readableRec t && decide (t < C.prog.types.size)) = true)
  (hvars : s.vars = []) (hspec : ∀ ds : List (DataW H), ds.length = fn.params.size -> s.fn H ds = { results := [.lit (.bool true)], args := ds })
  (hres : fn.resultTypes = #[tb]) (htb : C.prog.underlying tb = some .bool)
  (hfun : ∀ us : List U, zus C.prog fn.params.toList us -> Fun C.prog f (us.map .u) (· = .u (.bool true))) (hglob : ∀ W : World, laidMetH C.prog laid W -> GlobIn (zju W)) :
  ReturnsInHanded {} C os f .any (fun w args => (s.pre enc C.prog fn conds apart w args /\ laidMetH C.prog laid w) /\ sizedMet enc C.prog fn (OpenSpec.ofChange s) apart w args) (s.post enc C.prog fn apart fresh handsOn again) := by
 refine returnsInHanded_of_change_and (X := fun w _ => laidMetH C.prog laid w) (fun _ _ _ hh h => h.of_heap hh) own started noInit hfn witness ?_;intro W base args ds gs before hval hW _ _ hL _;have hpar' : ∀ t ∈ fn.params.toList, C.prog.readableRec t = true /\ t < C.prog.types.size := by
  intro t ht;have := List.all_eq_true.1 hpar t ht;simpa using this
 have hW' := hW;obtain ⟨p, q, hA, hV, rfl, hfz, hnd⟩ := hW;rw [hvars] at hV;obtain ⟨rfl, rfl⟩ := trodVars_none hV;have hlt : ∀ x ∈ p, x.block < W.heap.size := fun x hx => hW'.lt x (by simp [hx]);obtain ⟨us, h1, h2, _⟩ := zok hseq hA (fun t ht => (hpar' t ht).2) (fun j t v ht hv => hval j t v (by simpa using ht) (by simpa using hv));refine (zmh (hfun us h1) (hglob W hL) h2).mono ?_;rintro e W' ⟨rfl, hb⟩;have hdl : ds.length = fn.params.size := by
  have : ∀ {ts : List TypeId} {vs : List Value} {ds : List (DataW H)} {p : List MemPlace}, DataW.TrodAll enc C.prog W 0 (fun _ => true) true ts vs ds p -> ds.length = ts.length := by
   intro ts
   induction ts with
   | nil => intro vs ds p h; cases vs <;> cases ds <;> simp_all [DataW.TrodAll]
   | cons t ts ih =>
    intro vs ds p h;cases vs <;> cases ds <;> simp only [DataW.TrodAll] at h;obtain ⟨p, q, _, h2, _⟩ := h;simp [ih h2]
  simpa using this hA
 have hs := hspec ds hdl;refine ⟨_, rfl, zoN (pa := p) (pv := []) hW' (fun b sp hd => ?_) (fun sp hsp => ?_) (fun sp _ => ?_) rfl hb (fun j t r ht hr => ?_)⟩
 ·rw [List.append_nil, hs, hres];exact trodAll_mk1 ⟨1, by simp [DataW.trod, Value.cells, htb]⟩
 ·rw [List.append_nil, hs];exact zgJ hl hb hpar' hA hlt fun x hx => hsp x (by simp [hx])
 ·rw [List.append_nil, hs, hvars]
  try rfl
 ·rw [hres] at ht hr;cases j with
  | zero =>
   simp at ht;subst ht;simp [Value.resultList] at hr;subst hr;simp [Value.okWide, htb, Cell.okWide, Cell.ok]
  | succ j => simp at ht
theorem zkQ {P : Program} {w : World} {n : String} {g : Nat} {t e : TypeId} {cs : Array Value} {L : List (List UInt8)} {fuel : Nat} {H : Type} {enc : TypeId × Value -> H} {base : Nat} {spare : Nat -> Bool} {held : Bool} {q : List MemPlace}
  (hg : P.globalNamed n = some g) (hv : w.var? P n = some cs) (ht : P.underlying t = some (.array L.length e)) (he : P.underlying e = some .string) (hc : P.cellsOf e = 1)
  (hd : DataW.trod enc P w base spare held fuel t cs.toList = some (.agg (L.map fun b => .lit (.string b)), q)) : ∀ (j : Nat) (b : List UInt8), L[j]? = some b -> w.cell? ⟨g, j, none⟩ = some (.string ⟨b.toArray⟩) := by
 intro j b hj;obtain ⟨xs, m1, rfl, hx1, hlen, hn3, hel⟩ := DataW.trod_array ht hd;have hjl := (List.getElem?_eq_some_iff.1 hj).1;have h := hel j hjl;rw [hc, Nat.mul_one] at h;simp only [Prod.mk.injEq, DataW.agg.injEq] at hx1;obtain ⟨x, hx⟩ : ∃ x, xs[j]? = some x := ⟨_, List.getElem?_eq_getElem (by omega)⟩;rw [hx] at h;obtain ⟨s, h1, h2, _⟩ := DataW.trod_string he h;have h3 : (L.map fun b => (DataW.lit (.string b) : DataW H))[j]? = (xs.map (·.1))[j]? := by rw [hx1.1]
 rw [List.getElem?_map, List.getElem?_map, hj, hx, h2] at h3;simp only [Option.map_some, Option.some.injEq, DataW.lit.injEq, Lit.string.injEq] at h3;have h4 : (cs.toList.drop j)[0]? = some (.string s) := by
  have : ((cs.toList.drop j).take 1)[0]? = some (.string s) := by rw [h1]; rfl
  simpa [List.getElem?_take] using this
 rw [List.getElem?_drop, Nat.add_zero] at h4;rw [World.var?_cell hg hv j];rw [Array.getElem?_toList] at h4;rw [h4, h3]
end Go.VL
namespace Go.Proofs.YtmlpcgkaonifcaaGreatDoor
open Go Go.VL
@[simp] theorem un1 : (Tryz.prog.underlying 1).isSome = true := by kernel_rfl
@[simp] theorem na1 : zaY Tryz.prog 1 = true := by kernel_rfl
@[simp] theorem st1 : zbA Tryz.prog 1 = false := by kernel_rfl
@[simp] theorem sl1 : zdk Tryz.prog 1 = false := by kernel_rfl
@[simp] theorem un2 : (Tryz.prog.underlying 2).isSome = true := by kernel_rfl
@[simp] theorem na2 : zaY Tryz.prog 2 = true := by kernel_rfl
@[simp] theorem st2 : zbA Tryz.prog 2 = false := by kernel_rfl
@[simp] theorem sl2 : zdk Tryz.prog 2 = false := by kernel_rfl
@[simp] theorem ld3 : zfg Tryz.prog 3 = some none := by kernel_rfl
@[simp] theorem ts3 : tsz Tryz.prog 3 = some 1 := by kernel_rfl
@[simp] theorem un3 : (Tryz.prog.underlying 3).isSome = true := by kernel_rfl
@[simp] theorem na3 : zaY Tryz.prog 3 = true := by kernel_rfl
@[simp] theorem sf3 : stT Tryz.prog 3 = none := by kernel_rfl
@[simp] theorem st3 : zbA Tryz.prog 3 = false := by kernel_rfl
@[simp] theorem io3 : zlQ Tryz.prog 3 = some .i64 := by kernel_rfl
@[simp] theorem zc3 : zeC Tryz.prog 3 = some [.int .i64 0] := by kernel_rfl
@[simp] theorem sl3 : zdk Tryz.prog 3 = false := by kernel_rfl
@[simp] theorem ld4 : zfg Tryz.prog 4 = some none := by kernel_rfl
@[simp] theorem ts4 : tsz Tryz.prog 4 = some 1 := by kernel_rfl
@[simp] theorem un4 : (Tryz.prog.underlying 4).isSome = true := by kernel_rfl
@[simp] theorem na4 : zaY Tryz.prog 4 = true := by kernel_rfl
@[simp] theorem st4 : zbA Tryz.prog 4 = false := by kernel_rfl
@[simp] theorem sl4 : zdk Tryz.prog 4 = false := by kernel_rfl
@[simp] theorem un5 : (Tryz.prog.underlying 5).isSome = true := by kernel_rfl
@[simp] theorem na5 : zaY Tryz.prog 5 = true := by kernel_rfl
@[simp] theorem st5 : zbA Tryz.prog 5 = false := by kernel_rfl
@[simp] theorem sl5 : zdk Tryz.prog 5 = false := by kernel_rfl
@[simp] theorem un8 : (Tryz.prog.underlying 8).isSome = true := by kernel_rfl
@[simp] theorem na8 : zaY Tryz.prog 8 = true := by kernel_rfl
@[simp] theorem st8 : zbA Tryz.prog 8 = false := by kernel_rfl
@[simp] theorem sl8 : zdk Tryz.prog 8 = false := by kernel_rfl
@[simp] theorem ld9 : zfg Tryz.prog 9 = some none := by kernel_rfl
@[simp] theorem ts9 : tsz Tryz.prog 9 = some 1 := by kernel_rfl
@[simp] theorem un9 : (Tryz.prog.underlying 9).isSome = true := by kernel_rfl
@[simp] theorem na9 : zaY Tryz.prog 9 = true := by kernel_rfl
@[simp] theorem st9 : zbA Tryz.prog 9 = true := by kernel_rfl
@[simp] theorem zc9 : zeC Tryz.prog 9 = some [.string ⟨#[]⟩] := by kernel_rfl
@[simp] theorem sl9 : zdk Tryz.prog 9 = false := by kernel_rfl
@[simp] theorem zDH : (Tryz.prog.underlying 10).isSome = true := by kernel_rfl
@[simp] theorem zE8 : zaY Tryz.prog 10 = true := by kernel_rfl
@[simp] theorem zEh : zbA Tryz.prog 10 = true := by kernel_rfl
@[simp] theorem zEH : zdk Tryz.prog 10 = false := by kernel_rfl
@[simp] theorem zDG : (Tryz.prog.underlying 20).isSome = true := by kernel_rfl
@[simp] theorem zE7 : zaY Tryz.prog 20 = true := by kernel_rfl
@[simp] theorem zEg : zbA Tryz.prog 20 = false := by kernel_rfl
@[simp] theorem zGZ : zm9 Tryz.prog 20 = true := by kernel_rfl
@[simp] theorem zEG : zdk Tryz.prog 20 = false := by kernel_rfl
@[simp] theorem zFo : zfg Tryz.prog 22 = some none := by kernel_rfl
@[simp] theorem zDR : tsz Tryz.prog 22 = some 1 := by kernel_rfl
@[simp] theorem zDF : (Tryz.prog.underlying 22).isSome = true := by kernel_rfl
@[simp] theorem zE6 : zaY Tryz.prog 22 = true := by kernel_rfl
@[simp] theorem zEf : zbA Tryz.prog 22 = false := by kernel_rfl
@[simp] theorem zEF : zdk Tryz.prog 22 = true := by kernel_rfl
@[simp] theorem zB2 : ziV Tryz.prog 22 = some (69, 6) := by kernel_rfl
@[simp] theorem zFB : zeF Tryz.prog 22 = some (69, 6, 80, [.string ⟨#[]⟩, .int .i64 0, .int .i64 0, .int .i64 0, .string ⟨#[]⟩, .slice none 0 0]) := by kernel_rfl
@[simp] theorem zFn : zfg Tryz.prog 23 = some none := by kernel_rfl
@[simp] theorem zDE : (Tryz.prog.underlying 23).isSome = true := by kernel_rfl
@[simp] theorem zE5 : zaY Tryz.prog 23 = true := by kernel_rfl
@[simp] theorem zEe : zbA Tryz.prog 23 = false := by kernel_rfl
@[simp] theorem zEE : zdk Tryz.prog 23 = true := by kernel_rfl
@[simp] theorem zB1 : ziV Tryz.prog 23 = some (25, 5) := by kernel_rfl
@[simp] theorem zFA : zeF Tryz.prog 23 = some (25, 5, 64, [.int .i64 0, .int .i64 0, .int .i64 0, .string ⟨#[]⟩, .slice none 0 0]) := by kernel_rfl
@[simp] theorem zFm : zfg Tryz.prog 25 = some (some 5) := by kernel_rfl
@[simp] theorem zDQ : tsz Tryz.prog 25 = some 5 := by kernel_rfl
@[simp] theorem zDD : (Tryz.prog.underlying 25).isSome = true := by kernel_rfl
@[simp] theorem zE4 : zaY Tryz.prog 25 = true := by kernel_rfl
@[simp] theorem zA9 : stT Tryz.prog 25 = some [3, 3, 3, 9, 23] := by kernel_rfl
@[simp] theorem zEd : zbA Tryz.prog 25 = false := by kernel_rfl
@[simp] theorem zDh : zeC Tryz.prog 25 = some [.int .i64 0, .int .i64 0, .int .i64 0, .string ⟨#[]⟩, .slice none 0 0] := by kernel_rfl
@[simp] theorem zED : zdk Tryz.prog 25 = false := by kernel_rfl
@[simp] theorem zyW : zbI Tryz.prog 25 0 = some (0, 1, none) := by kernel_rfl
@[simp] theorem zyV : zbI Tryz.prog 25 1 = some (1, 1, none) := by kernel_rfl
@[simp] theorem zyU : zbI Tryz.prog 25 2 = some (2, 1, none) := by kernel_rfl
@[simp] theorem zyT : zbI Tryz.prog 25 3 = some (3, 1, none) := by kernel_rfl
@[simp] theorem zyS : zbI Tryz.prog 25 4 = some (4, 1, none) := by kernel_rfl
@[simp] theorem zC9 : zp Tryz.prog 25 = some ([.int .i64 0, .int .i64 0, .int .i64 0, .string ⟨#[]⟩, .slice none 0 0], [(0, 1), (1, 1), (2, 1), (3, 1), (4, 1)]) := by kernel_rfl
@[simp] theorem zFl : zfg Tryz.prog 27 = some (some 37) := by kernel_rfl
@[simp] theorem zDP : tsz Tryz.prog 27 = some 37 := by kernel_rfl
@[simp] theorem zDC : (Tryz.prog.underlying 27).isSome = true := by kernel_rfl
@[simp] theorem zE3 : zaY Tryz.prog 27 = true := by kernel_rfl
@[simp] theorem zyl : stT Tryz.prog 27 = some [3, 3, 3, 3, 3, 3, 4, 3, 3, 3, 3, 22, 25, 25, 25, 25, 25] := by kernel_rfl
@[simp] theorem zEc : zbA Tryz.prog 27 = false := by kernel_rfl
@[simp] theorem zDg : zeC Tryz.prog 27 = some [.int .i64 0, .int .i64 0, .int .i64 0, .int .i64 0, .int .i64 0, .int .i64 0, .bool false, .int .i64 0, .int .i64 0, .int .i64 0, .int .i64 0, .slice none 0 0, .int .i64 0, .int .i64 0, .int .i64 0, .string ⟨#[]⟩, .slice none 0 0, .int .i64 0, .int .i64 0, .int .i64 0, .string ⟨#[]⟩, .slice none 0 0, .int .i64 0, .int .i64 0, .int .i64 0, .string ⟨#[]⟩, .slice none 0 0, .int .i64 0, .int .i64 0, .int .i64 0, .string ⟨#[]⟩, .slice none 0 0, .int .i64 0, .int .i64 0, .int .i64 0, .string ⟨#[]⟩, .slice none 0 0] := by kernel_rfl
@[simp] theorem zEC : zdk Tryz.prog 27 = false := by kernel_rfl
@[simp] theorem zyR : zbI Tryz.prog 27 0 = some (0, 1, none) := by kernel_rfl
@[simp] theorem zyQ : zbI Tryz.prog 27 1 = some (1, 1, none) := by kernel_rfl
@[simp] theorem zyP : zbI Tryz.prog 27 2 = some (2, 1, none) := by kernel_rfl
@[simp] theorem zyO : zbI Tryz.prog 27 3 = some (3, 1, none) := by kernel_rfl
@[simp] theorem zyN : zbI Tryz.prog 27 4 = some (4, 1, none) := by kernel_rfl
@[simp] theorem zyM : zbI Tryz.prog 27 5 = some (5, 1, none) := by kernel_rfl
@[simp] theorem zyL : zbI Tryz.prog 27 6 = some (6, 1, none) := by kernel_rfl
@[simp] theorem zyK : zbI Tryz.prog 27 7 = some (7, 1, none) := by kernel_rfl
@[simp] theorem zyJ : zbI Tryz.prog 27 8 = some (8, 1, none) := by kernel_rfl
@[simp] theorem zyI : zbI Tryz.prog 27 9 = some (9, 1, none) := by kernel_rfl
@[simp] theorem zxx : zbI Tryz.prog 27 10 = some (10, 1, none) := by kernel_rfl
@[simp] theorem zxw : zbI Tryz.prog 27 11 = some (11, 1, none) := by kernel_rfl
@[simp] theorem zxv : zbI Tryz.prog 27 12 = some (12, 5, some 5) := by kernel_rfl
@[simp] theorem zxu : zbI Tryz.prog 27 13 = some (17, 5, some 5) := by kernel_rfl
@[simp] theorem zxt : zbI Tryz.prog 27 14 = some (22, 5, some 5) := by kernel_rfl
@[simp] theorem zxs : zbI Tryz.prog 27 15 = some (27, 5, some 5) := by kernel_rfl
@[simp] theorem zxr : zbI Tryz.prog 27 16 = some (32, 5, some 5) := by kernel_rfl
@[simp] theorem zC8 : zp Tryz.prog 27 = some ([.int .i64 0, .int .i64 0, .int .i64 0, .int .i64 0, .int .i64 0, .int .i64 0, .bool false, .int .i64 0, .int .i64 0, .int .i64 0, .int .i64 0, .slice none 0 0, .int .i64 0, .int .i64 0, .int .i64 0, .string ⟨#[]⟩, .slice none 0 0, .int .i64 0, .int .i64 0, .int .i64 0, .string ⟨#[]⟩, .slice none 0 0, .int .i64 0, .int .i64 0, .int .i64 0, .string ⟨#[]⟩, .slice none 0 0, .int .i64 0, .int .i64 0, .int .i64 0, .string ⟨#[]⟩, .slice none 0 0, .int .i64 0, .int .i64 0, .int .i64 0, .string ⟨#[]⟩, .slice none 0 0], [(0, 1), (1, 1), (2, 1), (3, 1), (4, 1), (5, 1), (6, 1), (7, 1), (8, 1), (9, 1), (10, 1), (11, 1), (12, 5), (17, 5), (22, 5), (27, 5), (32, 5)]) := by kernel_rfl
@[simp] theorem zFk : zfg Tryz.prog 28 = some none := by kernel_rfl
@[simp] theorem zDO : tsz Tryz.prog 28 = some 1 := by kernel_rfl
@[simp] theorem zDB : (Tryz.prog.underlying 28).isSome = true := by kernel_rfl
@[simp] theorem zE2 : zaY Tryz.prog 28 = true := by kernel_rfl
@[simp] theorem zEI : stT Tryz.prog 28 = none := by kernel_rfl
@[simp] theorem zEb : zbA Tryz.prog 28 = false := by kernel_rfl
@[simp] theorem zEB : zdk Tryz.prog 28 = true := by kernel_rfl
@[simp] theorem zB0 : ziV Tryz.prog 28 = some (3, 1) := by kernel_rfl
@[simp] theorem zFz : zeF Tryz.prog 28 = some (3, 1, 8, [.int .i64 0]) := by kernel_rfl
@[simp] theorem zFj : zfg Tryz.prog 31 = some none := by kernel_rfl
@[simp] theorem zDN : tsz Tryz.prog 31 = some 1 := by kernel_rfl
@[simp] theorem zDA : (Tryz.prog.underlying 31).isSome = true := by kernel_rfl
@[simp] theorem zE1 : zaY Tryz.prog 31 = true := by kernel_rfl
@[simp] theorem zEa : zbA Tryz.prog 31 = false := by kernel_rfl
@[simp] theorem zDf : zeC Tryz.prog 31 = some [.int .i64 0] := by kernel_rfl
@[simp] theorem zEA : zdk Tryz.prog 31 = false := by kernel_rfl
@[simp] theorem zFi : zfg Tryz.prog 35 = some (some 2) := by kernel_rfl
@[simp] theorem zDM : tsz Tryz.prog 35 = some 2 := by kernel_rfl
@[simp] theorem zDz : (Tryz.prog.underlying 35).isSome = true := by kernel_rfl
@[simp] theorem zE0 : zaY Tryz.prog 35 = true := by kernel_rfl
@[simp] theorem zD9 : zbA Tryz.prog 35 = false := by kernel_rfl
@[simp] theorem zDe : zeC Tryz.prog 35 = some [.slice none 0 0, .slice none 0 0] := by kernel_rfl
@[simp] theorem zEz : zdk Tryz.prog 35 = false := by kernel_rfl
@[simp] theorem zyH : zbI Tryz.prog 35 0 = some (0, 1, none) := by kernel_rfl
@[simp] theorem zyG : zbI Tryz.prog 35 1 = some (1, 1, none) := by kernel_rfl
@[simp] theorem zC7 : zp Tryz.prog 35 = some ([.slice none 0 0, .slice none 0 0], [(0, 1), (1, 1)]) := by kernel_rfl
@[simp] theorem zFh : zfg Tryz.prog 41 = some (some 3) := by kernel_rfl
@[simp] theorem zDL : tsz Tryz.prog 41 = some 3 := by kernel_rfl
@[simp] theorem zDy : (Tryz.prog.underlying 41).isSome = true := by kernel_rfl
@[simp] theorem zEZ : zaY Tryz.prog 41 = true := by kernel_rfl
@[simp] theorem zD8 : zbA Tryz.prog 41 = false := by kernel_rfl
@[simp] theorem zDd : zeC Tryz.prog 41 = some [.string ⟨#[]⟩, .int .i64 0, .int .i64 0] := by kernel_rfl
@[simp] theorem zEy : zdk Tryz.prog 41 = false := by kernel_rfl
@[simp] theorem zyF : zbI Tryz.prog 41 0 = some (0, 1, none) := by kernel_rfl
@[simp] theorem zyE : zbI Tryz.prog 41 1 = some (1, 1, none) := by kernel_rfl
@[simp] theorem zyD : zbI Tryz.prog 41 2 = some (2, 1, none) := by kernel_rfl
@[simp] theorem zC6 : zp Tryz.prog 41 = some ([.string ⟨#[]⟩, .int .i64 0, .int .i64 0], [(0, 1), (1, 1), (2, 1)]) := by kernel_rfl
@[simp] theorem zDx : (Tryz.prog.underlying 42).isSome = true := by kernel_rfl
@[simp] theorem zEY : zaY Tryz.prog 42 = true := by kernel_rfl
@[simp] theorem zD7 : zbA Tryz.prog 42 = false := by kernel_rfl
@[simp] theorem zEx : zdk Tryz.prog 42 = true := by kernel_rfl
@[simp] theorem zFt : ziV Tryz.prog 42 = some (41, 3) := by kernel_rfl
@[simp] theorem zFy : zeF Tryz.prog 42 = some (41, 3, 32, [.string ⟨#[]⟩, .int .i64 0, .int .i64 0]) := by kernel_rfl
@[simp] theorem zFg : zfg Tryz.prog 44 = some none := by kernel_rfl
@[simp] theorem zDw : (Tryz.prog.underlying 44).isSome = true := by kernel_rfl
@[simp] theorem zEX : zaY Tryz.prog 44 = true := by kernel_rfl
@[simp] theorem zD6 : zbA Tryz.prog 44 = false := by kernel_rfl
@[simp] theorem zEw : zdk Tryz.prog 44 = true := by kernel_rfl
@[simp] theorem zFs : ziV Tryz.prog 44 = some (66, 3) := by kernel_rfl
@[simp] theorem zFx : zeF Tryz.prog 44 = some (66, 3, 24, [.int .i64 0, .int .i64 0, .int .i64 0]) := by kernel_rfl
@[simp] theorem zFf : zfg Tryz.prog 56 = some (some 39) := by kernel_rfl
@[simp] theorem zDK : tsz Tryz.prog 56 = some 39 := by kernel_rfl
@[simp] theorem zDv : (Tryz.prog.underlying 56).isSome = true := by kernel_rfl
@[simp] theorem zEW : zaY Tryz.prog 56 = true := by kernel_rfl
@[simp] theorem zD5 : zbA Tryz.prog 56 = false := by kernel_rfl
@[simp] theorem zDc : zeC Tryz.prog 56 = some [.int .i64 0, .int .i64 0, .int .i64 0, .int .i64 0, .int .i64 0, .int .i64 0, .bool false, .int .i64 0, .int .i64 0, .int .i64 0, .int .i64 0, .slice none 0 0, .int .i64 0, .int .i64 0, .int .i64 0, .string ⟨#[]⟩, .slice none 0 0, .int .i64 0, .int .i64 0, .int .i64 0, .string ⟨#[]⟩, .slice none 0 0, .int .i64 0, .int .i64 0, .int .i64 0, .string ⟨#[]⟩, .slice none 0 0, .int .i64 0, .int .i64 0, .int .i64 0, .string ⟨#[]⟩, .slice none 0 0, .int .i64 0, .int .i64 0, .int .i64 0, .string ⟨#[]⟩, .slice none 0 0, .int .i64 0, .int .i64 0] := by kernel_rfl
@[simp] theorem zEv : zdk Tryz.prog 56 = false := by kernel_rfl
@[simp] theorem zyC : zbI Tryz.prog 56 0 = some (0, 37, some 37) := by kernel_rfl
@[simp] theorem zyB : zbI Tryz.prog 56 1 = some (37, 1, none) := by kernel_rfl
@[simp] theorem zyA : zbI Tryz.prog 56 2 = some (38, 1, none) := by kernel_rfl
@[simp] theorem zC5 : zp Tryz.prog 56 = some ([.int .i64 0, .int .i64 0, .int .i64 0, .int .i64 0, .int .i64 0, .int .i64 0, .bool false, .int .i64 0, .int .i64 0, .int .i64 0, .int .i64 0, .slice none 0 0, .int .i64 0, .int .i64 0, .int .i64 0, .string ⟨#[]⟩, .slice none 0 0, .int .i64 0, .int .i64 0, .int .i64 0, .string ⟨#[]⟩, .slice none 0 0, .int .i64 0, .int .i64 0, .int .i64 0, .string ⟨#[]⟩, .slice none 0 0, .int .i64 0, .int .i64 0, .int .i64 0, .string ⟨#[]⟩, .slice none 0 0, .int .i64 0, .int .i64 0, .int .i64 0, .string ⟨#[]⟩, .slice none 0 0, .int .i64 0, .int .i64 0], [(0, 37), (37, 1), (38, 1)]) := by kernel_rfl
@[simp] theorem zFe : zfg Tryz.prog 59 = some none := by kernel_rfl
@[simp] theorem zDu : (Tryz.prog.underlying 59).isSome = true := by kernel_rfl
@[simp] theorem zEV : zaY Tryz.prog 59 = true := by kernel_rfl
@[simp] theorem zD4 : zbA Tryz.prog 59 = false := by kernel_rfl
@[simp] theorem zEu : zdk Tryz.prog 59 = true := by kernel_rfl
@[simp] theorem zFr : ziV Tryz.prog 59 = some (119, 2) := by kernel_rfl
@[simp] theorem zFw : zeF Tryz.prog 59 = some (119, 2, 32, [.bool false, .slice none 0 0]) := by kernel_rfl
@[simp] theorem zFd : zfg Tryz.prog 66 = some (some 3) := by kernel_rfl
@[simp] theorem zDJ : tsz Tryz.prog 66 = some 3 := by kernel_rfl
@[simp] theorem zDt : (Tryz.prog.underlying 66).isSome = true := by kernel_rfl
@[simp] theorem zEU : zaY Tryz.prog 66 = true := by kernel_rfl
@[simp] theorem zD3 : zbA Tryz.prog 66 = false := by kernel_rfl
@[simp] theorem zDb : zeC Tryz.prog 66 = some [.int .i64 0, .int .i64 0, .int .i64 0] := by kernel_rfl
@[simp] theorem zEt : zdk Tryz.prog 66 = false := by kernel_rfl
@[simp] theorem zyz : zbI Tryz.prog 66 0 = some (0, 1, none) := by kernel_rfl
@[simp] theorem zyy : zbI Tryz.prog 66 1 = some (1, 1, none) := by kernel_rfl
@[simp] theorem zyx : zbI Tryz.prog 66 2 = some (2, 1, none) := by kernel_rfl
@[simp] theorem zC4 : zp Tryz.prog 66 = some ([.int .i64 0, .int .i64 0, .int .i64 0], [(0, 1), (1, 1), (2, 1)]) := by kernel_rfl
@[simp] theorem zFc : zfg Tryz.prog 69 = some (some 6) := by kernel_rfl
@[simp] theorem zDI : tsz Tryz.prog 69 = some 6 := by kernel_rfl
@[simp] theorem zDs : (Tryz.prog.underlying 69).isSome = true := by kernel_rfl
@[simp] theorem zET : zaY Tryz.prog 69 = true := by kernel_rfl
@[simp] theorem zA8 : stT Tryz.prog 69 = some [9, 25] := by kernel_rfl
@[simp] theorem zD2 : zbA Tryz.prog 69 = false := by kernel_rfl
@[simp] theorem zDa : zeC Tryz.prog 69 = some [.string ⟨#[]⟩, .int .i64 0, .int .i64 0, .int .i64 0, .string ⟨#[]⟩, .slice none 0 0] := by kernel_rfl
@[simp] theorem zEs : zdk Tryz.prog 69 = false := by kernel_rfl
@[simp] theorem zyw : zbI Tryz.prog 69 0 = some (0, 1, none) := by kernel_rfl
@[simp] theorem zyv : zbI Tryz.prog 69 1 = some (1, 5, some 5) := by kernel_rfl
@[simp] theorem zC3 : zp Tryz.prog 69 = some ([.string ⟨#[]⟩, .int .i64 0, .int .i64 0, .int .i64 0, .string ⟨#[]⟩, .slice none 0 0], [(0, 1), (1, 5)]) := by kernel_rfl
@[simp] theorem zDr : (Tryz.prog.underlying 70).isSome = true := by kernel_rfl
@[simp] theorem zES : zaY Tryz.prog 70 = true := by kernel_rfl
@[simp] theorem zD1 : zbA Tryz.prog 70 = false := by kernel_rfl
@[simp] theorem zEr : zdk Tryz.prog 70 = false := by kernel_rfl
@[simp] theorem zDq : (Tryz.prog.underlying 71).isSome = true := by kernel_rfl
@[simp] theorem zER : zaY Tryz.prog 71 = true := by kernel_rfl
@[simp] theorem zD0 : zbA Tryz.prog 71 = false := by kernel_rfl
@[simp] theorem zEq : zdk Tryz.prog 71 = false := by kernel_rfl
@[simp] theorem zDp : (Tryz.prog.underlying 73).isSome = true := by kernel_rfl
@[simp] theorem zEQ : zaY Tryz.prog 73 = true := by kernel_rfl
@[simp] theorem zDZ : zbA Tryz.prog 73 = false := by kernel_rfl
@[simp] theorem zEp : zdk Tryz.prog 73 = false := by kernel_rfl
@[simp] theorem zDo : (Tryz.prog.underlying 75).isSome = true := by kernel_rfl
@[simp] theorem zEP : zaY Tryz.prog 75 = true := by kernel_rfl
@[simp] theorem zDY : zbA Tryz.prog 75 = false := by kernel_rfl
@[simp] theorem zEo : zdk Tryz.prog 75 = false := by kernel_rfl
@[simp] theorem zFb : zfg Tryz.prog 79 = some none := by kernel_rfl
@[simp] theorem zDn : (Tryz.prog.underlying 79).isSome = true := by kernel_rfl
@[simp] theorem zEO : zaY Tryz.prog 79 = true := by kernel_rfl
@[simp] theorem zDX : zbA Tryz.prog 79 = false := by kernel_rfl
@[simp] theorem zEn : zdk Tryz.prog 79 = true := by kernel_rfl
@[simp] theorem zFq : ziV Tryz.prog 79 = some (28, 1) := by kernel_rfl
@[simp] theorem zFv : zeF Tryz.prog 79 = some (28, 1, 24, [.slice none 0 0]) := by kernel_rfl
@[simp] theorem zFa : zfg Tryz.prog 80 = some none := by kernel_rfl
@[simp] theorem zDm : (Tryz.prog.underlying 80).isSome = true := by kernel_rfl
@[simp] theorem zEN : zaY Tryz.prog 80 = true := by kernel_rfl
@[simp] theorem zDW : zbA Tryz.prog 80 = false := by kernel_rfl
@[simp] theorem zEm : zdk Tryz.prog 80 = true := by kernel_rfl
@[simp] theorem zFp : ziV Tryz.prog 80 = some (4, 1) := by kernel_rfl
@[simp] theorem zFu : zeF Tryz.prog 80 = some (4, 1, 1, [.bool false]) := by kernel_rfl
@[simp] theorem zDl : (Tryz.prog.underlying 82).isSome = true := by kernel_rfl
@[simp] theorem zEM : zaY Tryz.prog 82 = true := by kernel_rfl
@[simp] theorem zDV : zbA Tryz.prog 82 = false := by kernel_rfl
@[simp] theorem zEl : zdk Tryz.prog 82 = false := by kernel_rfl
@[simp] theorem zyu : zbI Tryz.prog 82 0 = some (0, 1, none) := by kernel_rfl
@[simp] theorem zyt : zbI Tryz.prog 82 1 = some (1, 1, none) := by kernel_rfl
@[simp] theorem zys : zbI Tryz.prog 82 2 = some (2, 1, none) := by kernel_rfl
@[simp] theorem zyr : zbI Tryz.prog 82 3 = some (3, 1, none) := by kernel_rfl
@[simp] theorem zyq : zbI Tryz.prog 82 4 = some (4, 1, none) := by kernel_rfl
@[simp] theorem zC2 : zp Tryz.prog 82 = some ([.slice none 0 0, .slice none 0 0, .slice none 0 0, .slice none 0 0, .slice none 0 0], [(0, 1), (1, 1), (2, 1), (3, 1), (4, 1)]) := by kernel_rfl
@[simp] theorem zDk : (Tryz.prog.underlying 85).isSome = true := by kernel_rfl
@[simp] theorem zEL : zaY Tryz.prog 85 = true := by kernel_rfl
@[simp] theorem zDU : zbA Tryz.prog 85 = false := by kernel_rfl
@[simp] theorem zEk : zdk Tryz.prog 85 = false := by kernel_rfl
@[simp] theorem zDj : (Tryz.prog.underlying 87).isSome = true := by kernel_rfl
@[simp] theorem zEK : zaY Tryz.prog 87 = true := by kernel_rfl
@[simp] theorem zDT : zbA Tryz.prog 87 = false := by kernel_rfl
@[simp] theorem zEj : zdk Tryz.prog 87 = false := by kernel_rfl
@[simp] theorem zDi : (Tryz.prog.underlying 97).isSome = true := by kernel_rfl
@[simp] theorem zEJ : zaY Tryz.prog 97 = true := by kernel_rfl
@[simp] theorem zDS : zbA Tryz.prog 97 = false := by kernel_rfl
@[simp] theorem zEi : zdk Tryz.prog 97 = false := by kernel_rfl
@[simp] theorem zE9 : zeK Tryz.prog 97 = some (.s, true, [.int .i64 0, .int .i64 0, .int .i64 0, .str [], .nil]) := by kernel_rfl
@[simp] theorem zzV : (Tryz.prog.underlying 101).isSome = true := by kernel_rfl
@[simp] theorem zBH : zaY Tryz.prog 101 = true := by kernel_rfl
@[simp] theorem zAB : zbA Tryz.prog 101 = false := by kernel_rfl
@[simp] theorem zA7 : zdk Tryz.prog 101 = true := by kernel_rfl
@[simp] theorem zB7 : ziV Tryz.prog 101 = some (9, 1) := by kernel_rfl
@[simp] theorem zCc : zeF Tryz.prog 101 = some (9, 1, 16, [.string ⟨#[]⟩]) := by kernel_rfl
@[simp] theorem zBY : zfg Tryz.prog 109 = some none := by kernel_rfl
@[simp] theorem zzU : (Tryz.prog.underlying 109).isSome = true := by kernel_rfl
@[simp] theorem zBG : zaY Tryz.prog 109 = true := by kernel_rfl
@[simp] theorem zAA : zbA Tryz.prog 109 = false := by kernel_rfl
@[simp] theorem zA6 : zdk Tryz.prog 109 = false := by kernel_rfl
@[simp] theorem zzT : (Tryz.prog.underlying 113).isSome = true := by kernel_rfl
@[simp] theorem zBF : zaY Tryz.prog 113 = true := by kernel_rfl
@[simp] theorem zAz : zbA Tryz.prog 113 = false := by kernel_rfl
@[simp] theorem zA5 : zdk Tryz.prog 113 = false := by kernel_rfl
@[simp] theorem zzS : (Tryz.prog.underlying 114).isSome = true := by kernel_rfl
@[simp] theorem zBE : zaY Tryz.prog 114 = true := by kernel_rfl
@[simp] theorem zAy : zbA Tryz.prog 114 = false := by kernel_rfl
@[simp] theorem zA4 : zdk Tryz.prog 114 = false := by kernel_rfl
@[simp] theorem zBX : zfg Tryz.prog 117 = some none := by kernel_rfl
@[simp] theorem zz3 : tsz Tryz.prog 117 = some 1 := by kernel_rfl
@[simp] theorem zzR : (Tryz.prog.underlying 117).isSome = true := by kernel_rfl
@[simp] theorem zBD : zaY Tryz.prog 117 = true := by kernel_rfl
@[simp] theorem zAx : zbA Tryz.prog 117 = false := by kernel_rfl
@[simp] theorem zA3 : zdk Tryz.prog 117 = true := by kernel_rfl
@[simp] theorem zB6 : ziV Tryz.prog 117 = some (124, 2) := by kernel_rfl
@[simp] theorem zCb : zeF Tryz.prog 117 = some (124, 2, 16, [.int .i64 0, .int .i64 0]) := by kernel_rfl
@[simp] theorem zBW : zfg Tryz.prog 119 = some (some 2) := by kernel_rfl
@[simp] theorem zz2 : tsz Tryz.prog 119 = some 2 := by kernel_rfl
@[simp] theorem zzQ : (Tryz.prog.underlying 119).isSome = true := by kernel_rfl
@[simp] theorem zBC : zaY Tryz.prog 119 = true := by kernel_rfl
@[simp] theorem zAw : zbA Tryz.prog 119 = false := by kernel_rfl
@[simp] theorem zzj : zeC Tryz.prog 119 = some [.bool false, .slice none 0 0] := by kernel_rfl
@[simp] theorem zA2 : zdk Tryz.prog 119 = false := by kernel_rfl
@[simp] theorem zxY : zbI Tryz.prog 119 0 = some (0, 1, none) := by kernel_rfl
@[simp] theorem zxX : zbI Tryz.prog 119 1 = some (1, 1, none) := by kernel_rfl
@[simp] theorem zzc : zp Tryz.prog 119 = some ([.bool false, .slice none 0 0], [(0, 1), (1, 1)]) := by kernel_rfl
@[simp] theorem zBV : zfg Tryz.prog 124 = some (some 2) := by kernel_rfl
@[simp] theorem zz1 : tsz Tryz.prog 124 = some 2 := by kernel_rfl
@[simp] theorem zzP : (Tryz.prog.underlying 124).isSome = true := by kernel_rfl
@[simp] theorem zBB : zaY Tryz.prog 124 = true := by kernel_rfl
@[simp] theorem zAv : zbA Tryz.prog 124 = false := by kernel_rfl
@[simp] theorem zzi : zeC Tryz.prog 124 = some [.int .i64 0, .int .i64 0] := by kernel_rfl
@[simp] theorem zA1 : zdk Tryz.prog 124 = false := by kernel_rfl
@[simp] theorem zxW : zbI Tryz.prog 124 0 = some (0, 1, none) := by kernel_rfl
@[simp] theorem zxV : zbI Tryz.prog 124 1 = some (1, 1, none) := by kernel_rfl
@[simp] theorem zzb : zp Tryz.prog 124 = some ([.int .i64 0, .int .i64 0], [(0, 1), (1, 1)]) := by kernel_rfl
@[simp] theorem zzO : (Tryz.prog.underlying 125).isSome = true := by kernel_rfl
@[simp] theorem zBA : zaY Tryz.prog 125 = true := by kernel_rfl
@[simp] theorem zAu : zbA Tryz.prog 125 = false := by kernel_rfl
@[simp] theorem zA0 : zdk Tryz.prog 125 = false := by kernel_rfl
@[simp] theorem zBU : zfg Tryz.prog 127 = some none := by kernel_rfl
@[simp] theorem zzN : (Tryz.prog.underlying 127).isSome = true := by kernel_rfl
@[simp] theorem zBz : zaY Tryz.prog 127 = true := by kernel_rfl
@[simp] theorem zAt : zbA Tryz.prog 127 = false := by kernel_rfl
@[simp] theorem zAZ : zdk Tryz.prog 127 = false := by kernel_rfl
@[simp] theorem zBT : zfg Tryz.prog 128 = some none := by kernel_rfl
@[simp] theorem zzM : (Tryz.prog.underlying 128).isSome = true := by kernel_rfl
@[simp] theorem zBy : zaY Tryz.prog 128 = true := by kernel_rfl
@[simp] theorem zAs : zbA Tryz.prog 128 = false := by kernel_rfl
@[simp] theorem zAY : zdk Tryz.prog 128 = true := by kernel_rfl
@[simp] theorem zB5 : ziV Tryz.prog 128 = some (209, 3) := by kernel_rfl
@[simp] theorem zCa : zeF Tryz.prog 128 = some (209, 3, 24, [.int .i64 0, .int .i64 0, .bool false]) := by kernel_rfl
@[simp] theorem zBS : zfg Tryz.prog 129 = some none := by kernel_rfl
@[simp] theorem zzL : (Tryz.prog.underlying 129).isSome = true := by kernel_rfl
@[simp] theorem zBx : zaY Tryz.prog 129 = true := by kernel_rfl
@[simp] theorem zAr : zbA Tryz.prog 129 = false := by kernel_rfl
@[simp] theorem zAX : zdk Tryz.prog 129 = false := by kernel_rfl
@[simp] theorem zBJ : zeK Tryz.prog 129 = some (.s, false, [.int .i64 0]) := by kernel_rfl
@[simp] theorem zzK : (Tryz.prog.underlying 131).isSome = true := by kernel_rfl
@[simp] theorem zBw : zaY Tryz.prog 131 = true := by kernel_rfl
@[simp] theorem zAq : zbA Tryz.prog 131 = false := by kernel_rfl
@[simp] theorem zAW : zdk Tryz.prog 131 = false := by kernel_rfl
@[simp] theorem zxU : zbI Tryz.prog 131 0 = some (0, 1, none) := by kernel_rfl
@[simp] theorem zxT : zbI Tryz.prog 131 1 = some (1, 1, none) := by kernel_rfl
@[simp] theorem zxS : zbI Tryz.prog 131 2 = some (2, 1, none) := by kernel_rfl
@[simp] theorem zza : zp Tryz.prog 131 = some ([.slice none 0 0, .slice none 0 0, .map none], [(0, 1), (1, 1), (2, 1)]) := by kernel_rfl
@[simp] theorem zzJ : (Tryz.prog.underlying 133).isSome = true := by kernel_rfl
@[simp] theorem zBv : zaY Tryz.prog 133 = true := by kernel_rfl
@[simp] theorem zAp : zbA Tryz.prog 133 = false := by kernel_rfl
@[simp] theorem zAV : zdk Tryz.prog 133 = false := by kernel_rfl
@[simp] theorem zzI : (Tryz.prog.underlying 136).isSome = true := by kernel_rfl
@[simp] theorem zBu : zaY Tryz.prog 136 = true := by kernel_rfl
@[simp] theorem zAo : zbA Tryz.prog 136 = false := by kernel_rfl
@[simp] theorem zAU : zdk Tryz.prog 136 = false := by kernel_rfl
@[simp] theorem zzH : (Tryz.prog.underlying 138).isSome = true := by kernel_rfl
@[simp] theorem zBt : zaY Tryz.prog 138 = true := by kernel_rfl
@[simp] theorem zAn : zbA Tryz.prog 138 = false := by kernel_rfl
@[simp] theorem zAT : zdk Tryz.prog 138 = false := by kernel_rfl
@[simp] theorem zBR : zfg Tryz.prog 143 = some none := by kernel_rfl
@[simp] theorem zzG : (Tryz.prog.underlying 143).isSome = true := by kernel_rfl
@[simp] theorem zBs : zaY Tryz.prog 143 = true := by kernel_rfl
@[simp] theorem zAm : zbA Tryz.prog 143 = false := by kernel_rfl
@[simp] theorem zAS : zdk Tryz.prog 143 = true := by kernel_rfl
@[simp] theorem zB4 : ziV Tryz.prog 143 = some (156, 4) := by kernel_rfl
@[simp] theorem zB9 : zeF Tryz.prog 143 = some (156, 4, 40, [.int .i64 0, .string ⟨#[]⟩, .int .i64 0, .int .i64 0]) := by kernel_rfl
@[simp] theorem zzF : (Tryz.prog.underlying 147).isSome = true := by kernel_rfl
@[simp] theorem zBr : zaY Tryz.prog 147 = true := by kernel_rfl
@[simp] theorem zAl : zbA Tryz.prog 147 = false := by kernel_rfl
@[simp] theorem zAR : zdk Tryz.prog 147 = false := by kernel_rfl
@[simp] theorem zxR : zbI Tryz.prog 147 0 = some (0, 1, none) := by kernel_rfl
@[simp] theorem zxQ : zbI Tryz.prog 147 1 = some (1, 1, none) := by kernel_rfl
@[simp] theorem zy9 : zp Tryz.prog 147 = some ([.slice none 0 0, .int .i64 0], [(0, 1), (1, 1)]) := by kernel_rfl
@[simp] theorem zz0 : tsz Tryz.prog 149 = some 2 := by kernel_rfl
@[simp] theorem zzB : (Tryz.prog.underlying 149).isSome = true := by kernel_rfl
@[simp] theorem zBq : zaY Tryz.prog 149 = true := by kernel_rfl
@[simp] theorem zAk : zbA Tryz.prog 149 = false := by kernel_rfl
@[simp] theorem zBb : zmY Tryz.prog 149 = true := by kernel_rfl
@[simp] theorem zzh : zeC Tryz.prog 149 = some [.int .i64 0, .int .i64 0] := by kernel_rfl
@[simp] theorem zAQ : zdk Tryz.prog 149 = false := by kernel_rfl
@[simp] theorem zxP : zbI Tryz.prog 149 0 = some (0, 1, none) := by kernel_rfl
@[simp] theorem zxO : zbI Tryz.prog 149 1 = some (1, 1, none) := by kernel_rfl
@[simp] theorem zy8 : zp Tryz.prog 149 = some ([.int .i64 0, .int .i64 0], [(0, 1), (1, 1)]) := by kernel_rfl
@[simp] theorem zBQ : zfg Tryz.prog 156 = some (some 4) := by kernel_rfl
@[simp] theorem zzZ : tsz Tryz.prog 156 = some 4 := by kernel_rfl
@[simp] theorem zzz : (Tryz.prog.underlying 156).isSome = true := by kernel_rfl
@[simp] theorem zBp : zaY Tryz.prog 156 = true := by kernel_rfl
@[simp] theorem zAj : zbA Tryz.prog 156 = false := by kernel_rfl
@[simp] theorem zzg : zeC Tryz.prog 156 = some [.int .i64 0, .string ⟨#[]⟩, .int .i64 0, .int .i64 0] := by kernel_rfl
@[simp] theorem zAP : zdk Tryz.prog 156 = false := by kernel_rfl
@[simp] theorem zxN : zbI Tryz.prog 156 0 = some (0, 1, none) := by kernel_rfl
@[simp] theorem zxM : zbI Tryz.prog 156 1 = some (1, 1, none) := by kernel_rfl
@[simp] theorem zxL : zbI Tryz.prog 156 2 = some (2, 1, none) := by kernel_rfl
@[simp] theorem zxK : zbI Tryz.prog 156 3 = some (3, 1, none) := by kernel_rfl
@[simp] theorem zy7 : zp Tryz.prog 156 = some ([.int .i64 0, .string ⟨#[]⟩, .int .i64 0, .int .i64 0], [(0, 1), (1, 1), (2, 1), (3, 1)]) := by kernel_rfl
@[simp] theorem zzY : tsz Tryz.prog 163 = some 1 := by kernel_rfl
@[simp] theorem zzy : (Tryz.prog.underlying 163).isSome = true := by kernel_rfl
@[simp] theorem zBo : zaY Tryz.prog 163 = true := by kernel_rfl
@[simp] theorem zAi : zbA Tryz.prog 163 = false := by kernel_rfl
@[simp] theorem zBa : zmY Tryz.prog 163 = true := by kernel_rfl
@[simp] theorem zzf : zeC Tryz.prog 163 = some [.int .i64 0] := by kernel_rfl
@[simp] theorem zAO : zdk Tryz.prog 163 = false := by kernel_rfl
@[simp] theorem zxJ : zbI Tryz.prog 163 0 = some (0, 1, none) := by kernel_rfl
@[simp] theorem zy6 : zp Tryz.prog 163 = some ([.int .i64 0], [(0, 1)]) := by kernel_rfl
@[simp] theorem zzx : (Tryz.prog.underlying 167).isSome = true := by kernel_rfl
@[simp] theorem zBn : zaY Tryz.prog 167 = true := by kernel_rfl
@[simp] theorem zAh : zbA Tryz.prog 167 = false := by kernel_rfl
@[simp] theorem zAN : zdk Tryz.prog 167 = false := by kernel_rfl
@[simp] theorem zzw : (Tryz.prog.underlying 170).isSome = true := by kernel_rfl
@[simp] theorem zBm : zaY Tryz.prog 170 = true := by kernel_rfl
@[simp] theorem zAg : zbA Tryz.prog 170 = false := by kernel_rfl
@[simp] theorem zAM : zdk Tryz.prog 170 = false := by kernel_rfl
@[simp] theorem zBP : zfg Tryz.prog 197 = some (some 11) := by kernel_rfl
@[simp] theorem zzv : (Tryz.prog.underlying 197).isSome = true := by kernel_rfl
@[simp] theorem zBl : zaY Tryz.prog 197 = false := by kernel_rfl
@[simp] theorem zAf : zbA Tryz.prog 197 = false := by kernel_rfl
@[simp] theorem zCU : zwl Tryz.prog 197 = some 11 := by kernel_rfl
@[simp] theorem zAL : zdk Tryz.prog 197 = false := by kernel_rfl
@[simp] theorem zzu : (Tryz.prog.underlying 202).isSome = true := by kernel_rfl
@[simp] theorem zBk : zaY Tryz.prog 202 = true := by kernel_rfl
@[simp] theorem zAe : zbA Tryz.prog 202 = false := by kernel_rfl
@[simp] theorem zAK : zdk Tryz.prog 202 = true := by kernel_rfl
@[simp] theorem zB3 : ziV Tryz.prog 202 = some (204, 3) := by kernel_rfl
@[simp] theorem zB8 : zeF Tryz.prog 202 = some (204, 3, 32, [.string ⟨#[]⟩, .int .i64 0, .int .i64 0]) := by kernel_rfl
@[simp] theorem zBO : zfg Tryz.prog 204 = some (some 3) := by kernel_rfl
@[simp] theorem zzX : tsz Tryz.prog 204 = some 3 := by kernel_rfl
@[simp] theorem zzt : (Tryz.prog.underlying 204).isSome = true := by kernel_rfl
@[simp] theorem zBj : zaY Tryz.prog 204 = true := by kernel_rfl
@[simp] theorem zAd : zbA Tryz.prog 204 = false := by kernel_rfl
@[simp] theorem zze : zeC Tryz.prog 204 = some [.string ⟨#[]⟩, .int .i64 0, .int .i64 0] := by kernel_rfl
@[simp] theorem zAJ : zdk Tryz.prog 204 = false := by kernel_rfl
@[simp] theorem zxI : zbI Tryz.prog 204 0 = some (0, 1, none) := by kernel_rfl
@[simp] theorem zxH : zbI Tryz.prog 204 1 = some (1, 1, none) := by kernel_rfl
@[simp] theorem zxG : zbI Tryz.prog 204 2 = some (2, 1, none) := by kernel_rfl
@[simp] theorem zy5 : zp Tryz.prog 204 = some ([.string ⟨#[]⟩, .int .i64 0, .int .i64 0], [(0, 1), (1, 1), (2, 1)]) := by kernel_rfl
@[simp] theorem zzs : (Tryz.prog.underlying 206).isSome = true := by kernel_rfl
@[simp] theorem zBi : zaY Tryz.prog 206 = true := by kernel_rfl
@[simp] theorem zAc : zbA Tryz.prog 206 = false := by kernel_rfl
@[simp] theorem zAI : zdk Tryz.prog 206 = false := by kernel_rfl
@[simp] theorem zzr : (Tryz.prog.underlying 207).isSome = true := by kernel_rfl
@[simp] theorem zBh : zaY Tryz.prog 207 = true := by kernel_rfl
@[simp] theorem zAb : zbA Tryz.prog 207 = false := by kernel_rfl
@[simp] theorem zAH : zdk Tryz.prog 207 = false := by kernel_rfl
@[simp] theorem zzq : (Tryz.prog.underlying 209).isSome = true := by kernel_rfl
@[simp] theorem zBg : zaY Tryz.prog 209 = true := by kernel_rfl
@[simp] theorem zAa : zbA Tryz.prog 209 = false := by kernel_rfl
@[simp] theorem zAG : zdk Tryz.prog 209 = false := by kernel_rfl
@[simp] theorem zxF : zbI Tryz.prog 209 0 = some (0, 1, none) := by kernel_rfl
@[simp] theorem zxE : zbI Tryz.prog 209 1 = some (1, 1, none) := by kernel_rfl
@[simp] theorem zxD : zbI Tryz.prog 209 2 = some (2, 1, none) := by kernel_rfl
@[simp] theorem zzp : (Tryz.prog.underlying 215).isSome = true := by kernel_rfl
@[simp] theorem zBf : zaY Tryz.prog 215 = true := by kernel_rfl
@[simp] theorem zz9 : zbA Tryz.prog 215 = false := by kernel_rfl
@[simp] theorem zAF : zdk Tryz.prog 215 = false := by kernel_rfl
@[simp] theorem zBN : zfg Tryz.prog 218 = some none := by kernel_rfl
@[simp] theorem zzo : (Tryz.prog.underlying 218).isSome = true := by kernel_rfl
@[simp] theorem zBe : zaY Tryz.prog 218 = true := by kernel_rfl
@[simp] theorem zz8 : zbA Tryz.prog 218 = false := by kernel_rfl
@[simp] theorem zAE : zdk Tryz.prog 218 = false := by kernel_rfl
@[simp] theorem zBI : zeK Tryz.prog 218 = some (.s, true, [.int .i64 0, .int .i64 0, .bool false]) := by kernel_rfl
@[simp] theorem zzl : (Tryz.prog.underlying 220).isSome = true := by kernel_rfl
@[simp] theorem zBd : zaY Tryz.prog 220 = true := by kernel_rfl
@[simp] theorem zz7 : zbA Tryz.prog 220 = false := by kernel_rfl
@[simp] theorem zAD : zdk Tryz.prog 220 = false := by kernel_rfl
@[simp] theorem zxC : zbI Tryz.prog 220 0 = some (0, 1, none) := by kernel_rfl
@[simp] theorem zxB : zbI Tryz.prog 220 1 = some (1, 1, none) := by kernel_rfl
@[simp] theorem zy4 : zp Tryz.prog 220 = some ([.map none, .map none], [(0, 1), (1, 1)]) := by kernel_rfl
@[simp] theorem zzW : tsz Tryz.prog 223 = some 3 := by kernel_rfl
@[simp] theorem zzk : (Tryz.prog.underlying 223).isSome = true := by kernel_rfl
@[simp] theorem zBc : zaY Tryz.prog 223 = true := by kernel_rfl
@[simp] theorem zz6 : zbA Tryz.prog 223 = false := by kernel_rfl
@[simp] theorem zzd : zeC Tryz.prog 223 = some [.int .i64 0, .int .i64 0, .bool false] := by kernel_rfl
@[simp] theorem zAC : zdk Tryz.prog 223 = false := by kernel_rfl
@[simp] theorem zxA : zbI Tryz.prog 223 0 = some (0, 1, none) := by kernel_rfl
@[simp] theorem zxz : zbI Tryz.prog 223 1 = some (1, 1, none) := by kernel_rfl
@[simp] theorem zxy : zbI Tryz.prog 223 2 = some (2, 1, none) := by kernel_rfl
@[simp] theorem zy3 : zp Tryz.prog 223 = some ([.int .i64 0, .int .i64 0, .bool false], [(0, 1), (1, 1), (2, 1)]) := by kernel_rfl
@[simp] theorem ca3 : zae Tryz.prog 3 = true := by kernel_rfl
@[simp] theorem ca5 : zae Tryz.prog 5 = true := by kernel_rfl
@[simp] theorem ca6 : zae Tryz.prog 6 = true := by kernel_rfl
@[simp] theorem ca7 : zae Tryz.prog 7 = true := by kernel_rfl
@[simp] theorem ca8 : zae Tryz.prog 8 = true := by kernel_rfl
@[simp] theorem ca9 : zae Tryz.prog 9 = true := by kernel_rfl
@[simp] theorem zGY : zae Tryz.prog 10 = true := by kernel_rfl
@[simp] theorem zGX : zae Tryz.prog 11 = true := by kernel_rfl
@[simp] theorem zGW : zae Tryz.prog 12 = true := by kernel_rfl
@[simp] theorem zGV : zae Tryz.prog 14 = true := by kernel_rfl
@[simp] theorem zGU : zae Tryz.prog 15 = true := by kernel_rfl
@[simp] theorem zGT : zae Tryz.prog 16 = true := by kernel_rfl
@[simp] theorem zGS : zae Tryz.prog 17 = true := by kernel_rfl
@[simp] theorem zGR : zae Tryz.prog 18 = true := by kernel_rfl
@[simp] theorem zGQ : zae Tryz.prog 19 = true := by kernel_rfl
@[simp] theorem zGP : zae Tryz.prog 20 = true := by kernel_rfl
@[simp] theorem zGO : zae Tryz.prog 21 = true := by kernel_rfl
@[simp] theorem zGN : zae Tryz.prog 22 = true := by kernel_rfl
@[simp] theorem zGM : zae Tryz.prog 23 = true := by kernel_rfl
@[simp] theorem zGL : zae Tryz.prog 24 = true := by kernel_rfl
@[simp] theorem zGK : zae Tryz.prog 25 = true := by kernel_rfl
@[simp] theorem zGJ : zae Tryz.prog 26 = true := by kernel_rfl
@[simp] theorem zGI : zae Tryz.prog 27 = true := by kernel_rfl
@[simp] theorem zGH : zae Tryz.prog 28 = true := by kernel_rfl
@[simp] theorem zGG : zae Tryz.prog 29 = true := by kernel_rfl
@[simp] theorem zGF : zae Tryz.prog 30 = true := by kernel_rfl
@[simp] theorem zGE : zae Tryz.prog 31 = true := by kernel_rfl
@[simp] theorem zGD : zae Tryz.prog 32 = true := by kernel_rfl
@[simp] theorem zGC : zae Tryz.prog 33 = true := by kernel_rfl
@[simp] theorem zGB : zae Tryz.prog 34 = true := by kernel_rfl
@[simp] theorem zGA : zae Tryz.prog 35 = true := by kernel_rfl
@[simp] theorem zGz : zae Tryz.prog 37 = true := by kernel_rfl
@[simp] theorem zGy : zae Tryz.prog 39 = true := by kernel_rfl
@[simp] theorem zGx : zae Tryz.prog 40 = true := by kernel_rfl
@[simp] theorem zGw : zae Tryz.prog 41 = true := by kernel_rfl
@[simp] theorem zGv : zae Tryz.prog 42 = true := by kernel_rfl
@[simp] theorem zGu : zae Tryz.prog 43 = true := by kernel_rfl
@[simp] theorem zGt : zae Tryz.prog 44 = true := by kernel_rfl
@[simp] theorem zGs : zae Tryz.prog 45 = true := by kernel_rfl
@[simp] theorem zGr : zae Tryz.prog 46 = true := by kernel_rfl
@[simp] theorem zGq : zae Tryz.prog 47 = true := by kernel_rfl
@[simp] theorem zGp : zae Tryz.prog 48 = true := by kernel_rfl
@[simp] theorem zGo : zae Tryz.prog 49 = true := by kernel_rfl
@[simp] theorem zGn : zae Tryz.prog 50 = true := by kernel_rfl
@[simp] theorem zGm : zae Tryz.prog 51 = true := by kernel_rfl
@[simp] theorem zGl : zae Tryz.prog 52 = true := by kernel_rfl
@[simp] theorem zGk : zae Tryz.prog 53 = true := by kernel_rfl
@[simp] theorem zGj : zae Tryz.prog 54 = true := by kernel_rfl
@[simp] theorem zGi : zae Tryz.prog 55 = true := by kernel_rfl
@[simp] theorem zGh : zae Tryz.prog 56 = true := by kernel_rfl
@[simp] theorem zGg : zae Tryz.prog 57 = true := by kernel_rfl
@[simp] theorem zGf : zae Tryz.prog 58 = true := by kernel_rfl
@[simp] theorem zGe : zae Tryz.prog 59 = true := by kernel_rfl
@[simp] theorem zGd : zae Tryz.prog 60 = true := by kernel_rfl
@[simp] theorem zGc : zae Tryz.prog 61 = true := by kernel_rfl
@[simp] theorem zGb : zae Tryz.prog 62 = true := by kernel_rfl
@[simp] theorem zGa : zae Tryz.prog 63 = true := by kernel_rfl
@[simp] theorem zF9 : zae Tryz.prog 64 = true := by kernel_rfl
@[simp] theorem zF8 : zae Tryz.prog 65 = true := by kernel_rfl
@[simp] theorem zF7 : zae Tryz.prog 66 = true := by kernel_rfl
@[simp] theorem zF6 : zae Tryz.prog 67 = true := by kernel_rfl
@[simp] theorem zF5 : zae Tryz.prog 68 = true := by kernel_rfl
@[simp] theorem zF4 : zae Tryz.prog 69 = true := by kernel_rfl
@[simp] theorem zF3 : zae Tryz.prog 70 = true := by kernel_rfl
@[simp] theorem zF2 : zae Tryz.prog 71 = true := by kernel_rfl
@[simp] theorem zF1 : zae Tryz.prog 72 = true := by kernel_rfl
@[simp] theorem zF0 : zae Tryz.prog 73 = true := by kernel_rfl
@[simp] theorem zFZ : zae Tryz.prog 74 = true := by kernel_rfl
@[simp] theorem zFY : zae Tryz.prog 75 = true := by kernel_rfl
@[simp] theorem zFX : zae Tryz.prog 76 = true := by kernel_rfl
@[simp] theorem zFW : zae Tryz.prog 77 = true := by kernel_rfl
@[simp] theorem zFV : zae Tryz.prog 78 = true := by kernel_rfl
@[simp] theorem zFU : zae Tryz.prog 79 = true := by kernel_rfl
@[simp] theorem zFT : zae Tryz.prog 80 = true := by kernel_rfl
@[simp] theorem zFS : zae Tryz.prog 83 = true := by kernel_rfl
@[simp] theorem zFR : zae Tryz.prog 84 = true := by kernel_rfl
@[simp] theorem zFQ : zae Tryz.prog 85 = true := by kernel_rfl
@[simp] theorem zFP : zae Tryz.prog 86 = true := by kernel_rfl
@[simp] theorem zFO : zae Tryz.prog 87 = true := by kernel_rfl
@[simp] theorem zFN : zae Tryz.prog 88 = true := by kernel_rfl
@[simp] theorem zFM : zae Tryz.prog 89 = true := by kernel_rfl
@[simp] theorem zFL : zae Tryz.prog 90 = true := by kernel_rfl
@[simp] theorem zFK : zae Tryz.prog 91 = true := by kernel_rfl
@[simp] theorem zFJ : zae Tryz.prog 92 = true := by kernel_rfl
@[simp] theorem zFI : zae Tryz.prog 93 = true := by kernel_rfl
@[simp] theorem zFH : zae Tryz.prog 94 = true := by kernel_rfl
@[simp] theorem zFG : zae Tryz.prog 95 = true := by kernel_rfl
@[simp] theorem zFF : zae Tryz.prog 96 = true := by kernel_rfl
@[simp] theorem zFE : zae Tryz.prog 97 = true := by kernel_rfl
@[simp] theorem zFD : zae Tryz.prog 98 = true := by kernel_rfl
@[simp] theorem zFC : zae Tryz.prog 99 = true := by kernel_rfl
@[simp] theorem zCP : zae Tryz.prog 101 = true := by kernel_rfl
@[simp] theorem zCO : zae Tryz.prog 113 = true := by kernel_rfl
@[simp] theorem zCN : zae Tryz.prog 114 = true := by kernel_rfl
@[simp] theorem zCM : zae Tryz.prog 115 = true := by kernel_rfl
@[simp] theorem zCL : zae Tryz.prog 116 = true := by kernel_rfl
@[simp] theorem zCK : zae Tryz.prog 117 = true := by kernel_rfl
@[simp] theorem zCJ : zae Tryz.prog 118 = true := by kernel_rfl
@[simp] theorem zCI : zae Tryz.prog 119 = true := by kernel_rfl
@[simp] theorem zCH : zae Tryz.prog 120 = true := by kernel_rfl
@[simp] theorem zCG : zae Tryz.prog 121 = true := by kernel_rfl
@[simp] theorem zCF : zae Tryz.prog 122 = true := by kernel_rfl
@[simp] theorem zCE : zae Tryz.prog 123 = true := by kernel_rfl
@[simp] theorem zCD : zae Tryz.prog 124 = true := by kernel_rfl
@[simp] theorem zCC : zae Tryz.prog 125 = true := by kernel_rfl
@[simp] theorem zCB : zae Tryz.prog 126 = true := by kernel_rfl
@[simp] theorem zCA : zae Tryz.prog 133 = true := by kernel_rfl
@[simp] theorem zCz : zae Tryz.prog 134 = true := by kernel_rfl
@[simp] theorem zCy : zae Tryz.prog 135 = true := by kernel_rfl
@[simp] theorem zCx : zae Tryz.prog 136 = true := by kernel_rfl
@[simp] theorem zCw : zae Tryz.prog 137 = true := by kernel_rfl
@[simp] theorem zCv : zae Tryz.prog 138 = true := by kernel_rfl
@[simp] theorem zCu : zae Tryz.prog 139 = true := by kernel_rfl
@[simp] theorem zCt : zae Tryz.prog 140 = true := by kernel_rfl
@[simp] theorem zCs : zae Tryz.prog 141 = true := by kernel_rfl
@[simp] theorem zCr : zae Tryz.prog 142 = true := by kernel_rfl
@[simp] theorem zCq : zae Tryz.prog 144 = true := by kernel_rfl
@[simp] theorem zCp : zae Tryz.prog 145 = true := by kernel_rfl
@[simp] theorem zCo : zae Tryz.prog 146 = true := by kernel_rfl
@[simp] theorem zCn : zae Tryz.prog 147 = true := by kernel_rfl
@[simp] theorem zCm : zae Tryz.prog 148 = true := by kernel_rfl
@[simp] theorem zCl : zae Tryz.prog 149 = true := by kernel_rfl
@[simp] theorem zCk : zae Tryz.prog 150 = true := by kernel_rfl
@[simp] theorem zCj : zae Tryz.prog 151 = true := by kernel_rfl
@[simp] theorem zCi : zae Tryz.prog 152 = true := by kernel_rfl
@[simp] theorem zCh : zae Tryz.prog 153 = true := by kernel_rfl
@[simp] theorem zCg : zae Tryz.prog 154 = true := by kernel_rfl
end Go.Proofs.YtmlpcgkaonifcaaGreatDoor
namespace Go.VL
open Go
section
theorem zt4 {k n n' ret q} (_ : (True /\ True) = q) (h0 : n = n') : arith k n ret = arith k n' ret := by rw [h0]
theorem zvN {op k a b a' b' ret q} (_ : (True /\ True) = q) (h0 : a = a') (h1 : b = b') : binI op k a b ret = binI op k a' b' ret := by rw [h0, h1]
theorem zvM {op a b a' b' ret q} (_ : (True /\ True) = q) (h0 : a = a') (h1 : b = b') : binS op a b ret = binS op a' b' ret := by rw [h0, h1]
theorem zvP {P op t a b a' b' ret q} (_ : (True /\ True) = q) (h0 : a = a') (h1 : b = b') : binB P op t a b ret = binB P op t a' b' ret := by rw [h0, h1]
theorem zrW {op k a b a' b' ret q} (_ : (True /\ True) = q) (h0 : a = a') (h1 : b = b') : shiftI op k a b ret = shiftI op k a' b' ret := by rw [h0, h1]
theorem zvH {op b b' ret q} (_ : (True /\ True) = q) (h0 : b = b') : nilD op b ret = nilD op b' ret := by rw [h0]
theorem zvQ {P op t x y x' y' ret q} (_ : (True /\ True) = q) (h0 : x = x') (h1 : y = y') : aggD P op t x y ret = aggD P op t x' y' ret := by rw [h0, h1]
theorem zvO {P op t x y x' y' ret q} (_ : (True /\ True) = q) (h0 : x = x') (h1 : y = y') : binD P op t x y ret = binD P op t x' y' ret := by rw [h0, h1]
theorem zwH {op x x' ret q} (_ : (True /\ True) = q) (h0 : x = x') : unD op x ret = unD op x' ret := by rw [h0]
theorem ztZ {P s t x x' ret q} (_ : (True /\ True) = q) (h0 : x = x') : loadD P s t x ret = loadD P s t x' ret := by rw [h0]
theorem zkP {P t x f x' ret q} (_ : (True /\ True) = q) (h0 : x = x') : fieldAddrD P t x f ret = fieldAddrD P t x' f ret := by rw [h0]
theorem zr2 {P t x f x' ret q} (_ : (True /\ True) = q) (h0 : x = x') : fieldD P t x f ret = fieldD P t x' f ret := by rw [h0]
theorem znn {P s t x i x' i' ret q} (_ : (True /\ True) = q) (h0 : x = x') (h1 : i = i') : indexSlD P s t x i ret = indexSlD P s t x' i' ret := by rw [h0, h1]
theorem zpG {P t i i' ret q} (_ : (True /\ True) = q) (h0 : i = i') : arrAddr P t i ret = arrAddr P t i' ret := by rw [h0]
theorem zkO {P s t x i x' i' ret q} (_ : (True /\ True) = q) (h0 : x = x') (h1 : i = i') : indexAddrD P s t x i ret = indexAddrD P s t x' i' ret := by rw [h0, h1]
theorem zr1 {P t x i x' i' ret q} (_ : (True /\ True) = q) (h0 : x = x') (h1 : i = i') : indexD P t x i ret = indexD P t x' i' ret := by rw [h0, h1]
theorem zvK {n lo hi n' lo' hi' ret q} (_ : (True /\ True) = q) (h0 : n = n') (h1 : lo = lo') (h2 : hi = hi') : cutD n lo hi ret = cutD n' lo' hi' ret := by rw [h0, h1, h2]
theorem zrV {P s t x lo hi x' lo' hi' ret q} (_ : (True /\ True) = q) (h0 : x = x') (h1 : lo = lo') (h2 : hi = hi') : sliceD P s t x lo hi ret = sliceD P s t x' lo' hi' ret := by rw [h0, h1, h2]
theorem zt2 {p a c a' c' ret q} (_ : (True /\ True) = q) (h0 : a = a') (h1 : c = c') : fillD p a c ret = fillD p a' c' ret := by rw [h0, h1]
theorem zr5 {P t a a' ret q} (_ : (True /\ True) = q) (h0 : a = a') : buildD P t a ret = buildD P t a' ret := by rw [h0]
theorem zvI {P s t x x' ret q} (_ : (True /\ True) = q) (h0 : x = x') : lenD P s t x ret = lenD P s t x' ret := by rw [h0]
theorem zpC {b l l' ret q} (_ : (True /\ True) = q) (h0 : l = l') : minmaxD b l ret = minmaxD b l' ret := by rw [h0]
theorem ztY {P s t x i ok x' i' ret q} (_ : (True /\ True) = q) (h0 : x = x') (h1 : i = i') : lookD P s t x i ok ret = lookD P s t x' i' ok ret := by rw [h0, h1]
theorem ztX {ag z r ok r' ret q} (_ : (True /\ True) = q) (h0 : r = r') : lookR ag z r ok ret = lookR ag z r' ok ret := by rw [h0]
theorem zt3 {P a b x x' ret q} (_ : (True /\ True) = q) (h0 : x = x') : convD P a b x ret = convD P a b x' ret := by rw [h0]
theorem zmf {x x' ret q} (_ : (True /\ True) = q) (h0 : x = x') : nilCheckD x ret = nilCheckD x' ret := by rw [h0]
theorem zmg {f a b a' b' ret q} (_ : (True /\ True) = q) (h0 : a = a') (h1 : b = b') : makeFuncD f a b ret = makeFuncD f a' b' ret := by rw [h0, h1]
theorem zpE {P t x x' ret q} (_ : (True /\ True) = q) (h0 : x = x') : makeIfD P t x ret = makeIfD P t x' ret := by rw [h0]
theorem zjm {P x t ok x' ret q} (_ : (True /\ True) = q) (h0 : x = x') : typeAssertD P x t ok ret = typeAssertD P x' t ok ret := by rw [h0]
theorem zr3 {P s op s' ret q} (_ : (True /\ True) = q) (h0 : s = s') : evPure P s op ret = evPure P s' op ret := by rw [h0]
theorem zr6 {P t s d ret q} (_ : (True /\ True) = q)  : zck P t s d ret = zck P t s d ret := by rfl
theorem zvL {x s d x' ret q} (_ : (True /\ True) = q) (h0 : x = x') : zfv x s d ret = zfv x' s d ret := by rw [h0]
theorem zrU {P t a x s a' x' ret q} (_ : (True /\ True) = q) (h0 : a = a') (h1 : x = x') : zcj P t a x s ret = zcj P t a' x' s ret := by rw [h0, h1]
theorem zjn {P t n a s d a' ret q} (_ : (True /\ True) = q) (h0 : a = a') : zaw P t n a s d ret = zaw P t n a' s d ret := by rw [h0]
theorem zpH {P t x y s d x' y' ret q} (_ : (True /\ True) = q) (h0 : x = x') (h1 : y = y') : zbB P t x y s d ret = zbB P t x' y' s d ret := by rw [h0, h1]
theorem ztW {P t x y s d x' y' ret q} (_ : (True /\ True) = q) (h0 : x = x') (h1 : y = y') : zdg P t x y s d ret = zdg P t x' y' s d ret := by rw [h0, h1]
theorem znm {P t s d ret q} (_ : (True /\ True) = q)  : zba P t s d ret = zba P t s d ret := by rfl
theorem zpD {P t x y z s x' y' z' ret q} (_ : (True /\ True) = q) (h0 : x = x') (h1 : y = y') (h2 : z = z') : zbs P t x y z s ret = zbs P t x' y' z' s ret := by rw [h0, h1, h2]
theorem zrY {P t x s d x' ret q} (_ : (True /\ True) = q) (h0 : x = x') : zcn P t x s d ret = zcn P t x' s d ret := by rw [h0]
theorem ztV {x s d x' ret q} (_ : (True /\ True) = q) (h0 : x = x') : nextD x s d ret = nextD x' s d ret := by rw [h0]
theorem zrX {P t z s d z' ret q} (_ : (True /\ True) = q) (h0 : z = z') : rangeS P t z s d ret = rangeS P t z' s d ret := by rw [h0]
theorem ztU {x s d x' ret q} (_ : (True /\ True) = q) (h0 : x = x') : nextS x s d ret = nextS x' s d ret := by rw [h0]
theorem zr4 {x s x' ret q} (_ : (True /\ True) = q) (h0 : x = x') : zcr x s ret = zcr x' s ret := by rw [h0]
theorem zrZ {d d' ret q} (_ : (True /\ True) = q) (h0 : d = d') : zco d ret = zco d' ret := by rw [h0]
theorem zr0 {P s t x y z x' y' z' ret q} (_ : (True /\ True) = q) (h0 : x = x') (h1 : y = y') (h2 : z = z') : mapEff P s t x y z ret = mapEff P s t x' y' z' ret := by rw [h0, h1, h2]
theorem zvJ {P s op s' ret q} (_ : (True /\ True) = q) (h0 : s = s') : effD P s op ret = effD P s' op ret := by rw [h0]
theorem zvF {P s op s' ret q} (_ : (True /\ True) = q) (h0 : s = s') : valD P s op ret = valD P s' op ret := by rw [h0]
theorem zt0 {P Γ d op s s' ret q} (_ : (True /\ True) = q) (h0 : s = s') : zcq P Γ d op s ret = zcq P Γ d op s' ret := by rw [h0]
theorem zt7 {P s f a s' ret q} (_ : (True /\ True) = q) (h0 : s = s') : CallV P s f a ret = CallV P s' f a ret := by rw [h0]
theorem zvG {P s rs s' rs' ret q} (_ : (True /\ True) = q) (h0 : s = s') (h1 : rs = rs') : zea P s rs ret = zea P s' rs' ret := by rw [h0, h1]
theorem zpF {α : Type} {c c' : List α} {o o' l l' f g z} (_ : (True /\ True) = z) (h : c = c') (h1 : o = o') (h2 : l = l') : cellsAt c o l f g = cellsAt c' o' l' f g := by rw [h, h1, h2]
attribute [congr] zt4 zvN zvM zvP zrW zvH zvQ zvO zwH ztZ zkP zr2 znn zpG zkO zr1 zvK zrV zt2 zr5 zvI zpC ztY ztX zt3 zmf zmg zpE zjm zr3 zr6 zvL zrU zjn zpH ztW znm zpD zrY ztV zrX ztU zr4 zrZ zr0 zvJ zvF zt0 zt7 zvG zpF
theorem zt8 {P Γ f a d s s' k z} (_ : (True /\ True) = z) (h : s = s') : CallP P Γ f a d s k = CallP P Γ f a d s' k := by rw [h]
attribute [congr] zt8
end
def Cnd (p q A B : Prop) : Prop := (p -> A) /\ (q -> B)
theorem Cnd.of {p q A B : Prop} (h : p -> A) (h' : q -> B) : Cnd p q A B := ⟨h, h'⟩
theorem zcS {A B : Prop} : Cnd True False A B = A := by simp [Cnd]
theorem zcT {A B : Prop} : Cnd False True A B = B := by simp [Cnd]
theorem zwO {p q p' q' A B z : Prop} (_ : (True /\ True) = z) (h : p = p') (h' : q = q') : Cnd p q A B = Cnd p' q' A B := by rw [h, h']
def HR (P : Program) (Γ : Ctx) : List O1 -> St -> (St -> Prop) -> Prop
 | [], s, k => k s
 | o :: r, s, k => match o.guard with
  | none => zcq P Γ o.dst o.op s fun s' => HR P Γ r s' k
  | some (t, want) => match getK s.env t with
   | some (.u (.bool b)) => zay o.dst s ∧ Cnd (b = want) (b = !want)
         (zcq P Γ o.dst o.op (s.put (some t) (.u (.bool want))) fun s' => HR P Γ r s' k)
         (HR P Γ r ((s.put (some t) (.u (.bool (!want)))).put o.dst .un) k)
   | some (.u (.oth v)) => v = undef /\ zay o.dst s /\ HR P Γ r (s.put o.dst .un) k
   | _ => False
theorem zw7 {P Γ} {all : Array Oper} {k : St -> Prop} : ∀ {l : List O1} {ops : List Oper} {s}, zbz all ops = some l -> HR P Γ l s k -> G P Γ all ops s k
 | [], ops, s, e, h => by
  cases ops with
  | nil => exact zw8 h
  | cons x l => simp only [zbz] at e; split at e <;> simp at e
 | o :: r, ops, s, e, h => by
  obtain ⟨x, ops', rfl, hx, hr⟩ := zgo e;obtain ⟨dst, op, type, pos, after, guard⟩ := x;unfold zda at hx;unfold HR at h;simp only at hx;cases guard with
  | none =>
   simp at hx;subst hx;exact zot ((ze2 (o := { dst, op, type, pos, after, guard := none }) h).mono fun s' h => zw7 hr h)
  | some g =>
   obtain ⟨j, b⟩ := g;simp only at hx;split at hx
   ·rename_i t ht;simp at hx;subst hx;simp only at h;split at h
    ·rename_i b' hb;obtain ⟨hp, hy, hn⟩ := h;exact zsv ht hb hp (fun e => zot ((ze2 (o := { dst, op, type, pos, after, guard := none }) (hy e)).mono fun s' h => zw7 hr h)) (fun e => zw7 hr (hn e))
    ·rename_i v hb;obtain ⟨rfl, hp, hn⟩ := h;exact zos ht hb hp (zw7 hr hn)
    ·exact h.elim
   ·cases hx
theorem zw9 {P Γ all ops s} {k k' : St -> Prop} (h : G P Γ all ops s k) (hk : ∀ s, k s -> k' s) : G P Γ all ops s k' :=
 fun K a w h1 h2 Q hQ => h K a w h1 h2 Q fun K' a' w' s' h3 h4 h5 => hQ K' a' w' s' h3 h4 (hk _ h5)
def vs2 (P : Program) (Γ : Ctx) (Q : Exit -> St -> Prop) (R : Kt -> Exit -> St -> Prop) : Code -> Kt -> St -> Prop
 | .seq a b, k, s => vs2 P Γ Q R a (.seq b k) s
 | .block id c, k, s => vs2 P Γ Q R c (.blk id k) s
 | .skip, k, s => R k .normal s
 | .label _, k, s => R k .normal s
 | .exit id, k, s => R k (.exit id) s
 | .ret, k, s => R k .ret s
 | .cond c x y, k, s => match opd s c with
  | .u (.bool t) => Cnd (t = true) (t = false) (vs2 P Γ Q R x k s) (vs2 P Γ Q R y k s)
  | _ => False
 | .region _ l false, k, s => match zbz l l.toList with | some l' => HR P Γ l' s (R k .normal) | none => False
 | c, k, s => V P Γ c s (zbf P Γ Q k)
theorem zmD {P Γ Q} {R : Kt -> Exit -> St -> Prop} (hR : ∀ k e s, R k e s -> zbf P Γ Q k e s) : ∀ {c : Code} {k : Kt} {s : St}, vs2 P Γ Q R c k s -> V P Γ c s (zbf P Γ Q k)
 | .seq a b, k, s, h => zv2 (zmD hR (c := a) (by rw [vs2] at h; exact h))
 | .block id c, k, s, h => znt (zmD hR (c := c) (by rw [vs2] at h; exact h))
 | .skip, k, s, h => zec (hR _ _ _ (by rw [vs2] at h; exact h))
 | .label _, k, s, h => zsp (hR _ _ _ (by rw [vs2] at h; exact h))
 | .exit id, k, s, h => zfP (hR _ _ _ (by rw [vs2] at h; exact h))
 | .ret, k, s, h => zjq (hR _ _ _ (by rw [vs2] at h; exact h))
 | .cond c x y, k, s, h => by
  rw [vs2] at h;split at h
  ·rename_i t ht;exact zuN ht (fun e => zmD hR (h.1 e)) (fun e => zmD hR (h.2 e))
  ·exact h.elim
 | .region id l false, k, s, h => by
  rw [vs2] at h;have := zmp (P := P) (Γ := Γ) (s := s) (Q := Q) (kt := k) (id := id) (l := l.toList) fun K hK => by
   split at h
   ·rename_i l' hl;simp only [Array.toArray_toList]
    try rw [hl]
    exact fun all ops e => zw9 (zw7 e h) fun s hs => hK _ (hR _ _ _ hs)
   ·exact h.elim
  simpa using this
 | .region _ _ true, k, s, h => by rw [vs2] at h; exact h; all_goals simp
 | .loop c, k, s, h => by rw [vs2] at h; exact h; all_goals simp
 | .rangeFunc .., k, s, h => by rw [vs2] at h; exact h; all_goals simp
 | .scope .., k, s, h => by rw [vs2] at h; exact h; all_goals simp
 | .goto .., k, s, h => by rw [vs2] at h; exact h; all_goals simp
 | .refuse .., k, s, h => by rw [vs2] at h; exact h; all_goals simp
def RN (P : Program) (Γ : Ctx) (Q : Exit -> St -> Prop) : Nat -> Kt -> Exit -> St -> Prop
 | 0, k, e, s => zbf P Γ Q k e s
 | _ + 1, .done, e, s => Q e s
 | n + 1, .seq b k, .normal, s => vs2 P Γ Q (RN P Γ Q n) b k s
 | n + 1, .seq _ k, e, s => RN P Γ Q n k e s
 | n + 1, .blk id k, .exit id', s => if id' = id then RN P Γ Q n k .normal s else RN P Γ Q n k (.exit id') s
 | n + 1, .blk _ k, e, s => RN P Γ Q n k e s
 | _ + 1, .loop I _, .normal, s => I s
 | n + 1, .loop _ k, e, s => RN P Γ Q n k e s
theorem zdH {P Γ Q} : ∀ n k e s, RN P Γ Q n k e s -> zbf P Γ Q k e s
 | 0, _, _, _, h => h
 | n + 1, k, e, s, h => by
  have ih := zdH (P := P) (Γ := Γ) (Q := Q) n;cases k <;> cases e <;> simp only [RN, zbf] at h ⊢ <;> first | exact h | exact ih _ _ _ h | exact zmD ih h | (split at h <;> rename_i hc <;> first | (rw [if_pos hc]; exact ih _ _ _ h) | (rw [if_neg hc]; exact ih _ _ _ h))
def zyo : Code -> Bool
 | .loop _ | .rangeFunc .. | .scope .. | .region _ _ true => false
 | _ => true
theorem zaf {P Γ Q c k s} (_ : zyo c = true) (h : vs2 P Γ Q (RN P Γ Q 8) c k s) : V P Γ c s (zbf P Γ Q k) := zmD (zdH 8) h
theorem zgl {P Γ Q c k s} (_ : zyo c = true) (h : vs2 P Γ Q (RN P Γ Q 0) c k s) : V P Γ c s (zbf P Γ Q k) := zmD (zdH 0) h
theorem zwZ {P Γ c s} {Q Q' : Exit -> St -> Prop} (h : V P Γ c s Q) (hq : ∀ e s, Q e s -> Q' e s) : V P Γ c s Q' := fun K a w hin hs => by
 refine Code.wp_mono ?_ (h K a w hin hs);rintro e a' w' (⟨K', s', h2, h3, h4⟩ | h2)
 ·cases e <;> first | exact .inl ⟨K', s', h2, h3, hq _ _ h4⟩ | exact .inl ⟨K', s', h2, h3, h4⟩
 ·exact .inr h2
section
variable {P : Program} {Γ : Ctx} {Q : Exit -> St -> Prop} {R : Kt -> Exit -> St -> Prop} {k : Kt} {s s' : St} {n : Nat}
theorem zx3 {l K z} (_ : (True /\ True) = z) (h : s = s') : HR P Γ l s K = HR P Γ l s' K := by rw [h]
theorem zwG {c z} (_ : (True /\ True) = z) (h : s = s') : vs2 P Γ Q R c k s = vs2 P Γ Q R c k s' := by rw [h]
theorem zx2 {e z} (_ : (True /\ True) = z) (h : s = s') : RN P Γ Q n k e s = RN P Γ Q n k e s' := by rw [h]
attribute [congr] zwO zx3 zwG zx2
theorem zcO {K} : HR P Γ [] s K = K s := rfl
theorem zcf {d op r K} : HR P Γ (⟨d, op, none⟩ :: r) s K = zcq P Γ d op s fun s' => HR P Γ r s' K := rfl
theorem zcP {d op t want r K} : HR P Γ (⟨d, op, some (t, want)⟩ :: r) s K = match getK s.env t with
   | some (.u (.bool b)) => zay d s /\ Cnd (b = want) (b = !want)
     (zcq P Γ d op (s.put (some t) (.u (.bool want))) fun s' => HR P Γ r s' K)
     (HR P Γ r ((s.put (some t) (.u (.bool (!want)))).put d .un) K)
   | some (.u (.oth v)) => v = undef /\ zay d s /\ HR P Γ r (s.put d .un) K
   | _ => False := rfl
theorem zcK {a b : Code} : vs2 P Γ Q R (.seq a b) k s = vs2 P Γ Q R a (.seq b k) s := by rw [vs2]
theorem zbD {i} {a : Code} : vs2 P Γ Q R (.block i a) k s = vs2 P Γ Q R a (.blk i k) s := by rw [vs2]
theorem zb6 : vs2 P Γ Q R .skip k s = R k .normal s := by rw [vs2]
theorem zb8 {l} : vs2 P Γ Q R (.exit l) k s = R k (.exit l) s := by rw [vs2]
theorem zcL : vs2 P Γ Q R .ret k s = R k .ret s := by rw [vs2]
theorem zca {c x y} : vs2 P Γ Q R (.cond c x y) k s = match opd s c with
  | .u (.bool t) => Cnd (t = true) (t = false) (vs2 P Γ Q R x k s) (vs2 P Γ Q R y k s)
  | _ => False := by rw [vs2]
theorem zbe {i} {l : List Oper} : vs2 P Γ Q R (.region i l.toArray false) k s = match zbz l.toArray l with | some l' => HR P Γ l' s (R k .normal) | none => False := by rw [vs2]
theorem zb9 {i l} : vs2 P Γ Q R (.region i l true) k s = V P Γ (.region i l true) s (zbf P Γ Q k) := by rw [vs2] <;> simp
theorem zb7 {c} : vs2 P Γ Q R (.loop c) k s = V P Γ (.loop c) s (zbf P Γ Q k) := by rw [vs2] <;> simp
theorem zhc {e} : RN P Γ Q 0 k e s = zbf P Γ Q k e s := rfl
theorem zce {e} : RN P Γ Q (n + 1) .done e s = Q e s := rfl
theorem zcM {b} : RN P Γ Q (n + 1) (.seq b k) .normal s = vs2 P Γ Q (RN P Γ Q n) b k s := rfl
theorem zaZ {b} : RN P Γ Q (n + 1) (.seq b k) .ret s = RN P Γ Q n k .ret s := rfl
theorem zaL {b i} : RN P Γ Q (n + 1) (.seq b k) (.exit i) s = RN P Γ Q n k (.exit i) s := rfl
theorem zcN {i} : RN P Γ Q (n + 1) (.blk i k) .normal s = RN P Γ Q n k .normal s := rfl
theorem za0 {i} : RN P Γ Q (n + 1) (.blk i k) .ret s = RN P Γ Q n k .ret s := rfl
theorem zaN {i j} : RN P Γ Q (n + 1) (.blk i k) (.exit j) s = if j = i then RN P Γ Q n k .normal s else RN P Γ Q n k (.exit j) s := rfl
theorem zcd {I} : RN P Γ Q (n + 1) (.loop I k) .normal s = I s := rfl
theorem zaM {I} : RN P Γ Q (n + 1) (.loop I k) .ret s = RN P Γ Q n k .ret s := rfl
theorem zaF {I i} : RN P Γ Q (n + 1) (.loop I k) (.exit i) s = RN P Γ Q n k (.exit i) s := rfl
end
def Pst (p : Prop) : Prop := p
theorem Pst.of {p : Prop} (h : p) : Pst p := h
theorem zwK {p z : Prop} (_ : (True /\ True) = z) : Pst p = Pst p := rfl
attribute [congr] zwK
def zha (P : Program) (rs : Array ResultVar) (post : D -> Prop) (e : Exit) (s : St) : Prop := (e = .normal \/ e = .ret) /\ Pst (zea P s rs.toList fun ds => zbC (zaC ds) = true /\ post (zaC ds))
theorem Fun.run {P f fn c ds post nt rs} (hf : P.funcs[f]? = some fn) (hnt : fn.ntmps = nt) (hr : fn.results = rs) (hb : fn.body = some c) (hn : ds.length <= nt)
  (h : ∀ Γ : Ctx, Γ.n0 = 0 -> V P Γ c (entry ds nt [] 0) (zbf P Γ (zha P rs post) .done)) : Fun P f ds post := by
 subst hnt hr;exact Fun.of_body hf hb hn fun Γ hn => zwZ (h Γ hn) fun e s h => EndOK.val h.1 h.2
theorem CallP.f2 {P : Program} {Γ : Ctx} {s : St} {k : St -> Prop} {dst : Option Tmp} {fop : Operand} {args : List Operand} {f caps} {ds : List D} {L : List Nat} {v : D} (hf : zam (opd s fop) = some (f, caps)) (hret : Fun P f ds (· = v))
  (hds : zcm s (args.map (opd s) ++ caps) = some (ds, L)) (hk : zae P f = true /\ zay dst s /\ k (({ s with obs := if zaW v then s.obs else delAll s.obs L } : St).put dst v)) : CallP P Γ fop args dst s k :=
 CallP.fun_ hret hf hk.1 hds hk.2.1 fun d h => by subst h; exact hk.2.2
theorem CallV.f2 {P : Program} {s : St} {ret : D -> Prop} {fop : Operand} {args : List Operand} {f caps} {ds : List D} {L : List Nat} {v : D} (hf : zam (opd s fop) = some (f, caps)) (hret : Fun P f ds (· = v))
  (hds : zcm s (args.map (opd s) ++ caps) = some (ds, L)) (hk : zae P f = true /\ (zaW v = true \/ L = []) /\ ret v) : CallV P s fop args ret := CallV.fun_ hret hf hk.1 hds hk.2.1 hk.2.2
theorem znB {s : St} {nx : Nat} : ∀ {l : List (Nat × Ob)} {p : Nat × Ob}, wkO s nx l -> p ∈ l -> p.1 < nx /\ getK s.obs p.1 = some p.2 /\ p.2.under nx = true
 | q :: l, p, h, hp => by
  rcases List.mem_cons.1 hp with rfl | hp
  ·exact h.1
  ·exact znB h.2 hp
theorem zlo {P : Program} {s : St} {K K' : List D -> Prop} (hk : ∀ ds, K ds -> K' ds) {rs : List ResultVar} (h : zea P s rs K) : zea P s rs K' := by
 induction rs generalizing K K' with
 | nil => exact hk _ h
 | cons r rs ih =>
  cases r with
  | tmp t => exact ih (fun ds => hk _) h
  | cell a t => exact Lin.loadD.1 _ _ (fun d hd => ih (fun ds => hk _) hd) h
theorem Wk.zdw {Γ : Ctx} {s s' : St} (h : s'.n = s.n /\ Γ.n0 <= s'.next /\ wkO s s'.next s'.obs /\ wkU s'.next s'.env /\ wkE s s'.env) : Wk Γ s s' := .cut h.1 h.2.1 h.2.2.1 h.2.2.2.1 h.2.2.2.2
theorem Fun.runW {P f fn c ds post nt} (hf : P.funcs[f]? = some fn) (hnt : fn.ntmps = nt) (hb : fn.body = some c) (hn : ds.length <= nt)
  (h : ∀ Γ : Ctx, Γ.n0 = 0 -> V P Γ c (entry ds nt [] 0) (zbf P Γ (EndW P Γ fn 0 fun d _ _ => zbC d = true /\ post d) .done)) : Fun P f ds post := by subst hnt; exact Fun.of_bodyW hf hb hn h
theorem Ret.runW {P f fn c ds obs nx post nt} (hf : P.funcs[f]? = some fn) (hnt : fn.ntmps = nt) (hb : fn.body = some c) (hn : ds.length <= nt)
  (h : ∀ Γ : Ctx, Γ.n0 = nx -> V P Γ c (entry ds nt obs nx) (zbf P Γ (EndW P Γ fn nx post) .done)) : Ret P f ds obs nx post := by subst hnt; exact Ret.of_bodyW hf hb hn h
end Go.VL
namespace Go.VL
open Go
def h4s (P : Program) (R : St -> Fp4 -> Prop) (G : Prop) (dst : Option Tmp) (op : Op) (s : St) (fp : Fp4) : Prop :=
 match zbK op with
 | some _ => G
 | none => if zbH op = true then effD P s op fun e => zay dst s /\ (e.nw = none -> dst = none) /\ R (s.effS e dst) (fp ++ [(zcl s op, match e.nw with | none => (e.U.map (·.1), 0) | some _ => (s.next :: e.U.map (·.1), 0))])
  else evPure P s op fun d => zay dst s /\ R (s.put dst d) (fp ++ [(zcl s op, [], 0)])
def H4 (P : Program) (Γ : Ctx) (N : Nat) (C : Fp4 -> Prop) (k : St -> Prop) : List O1 -> St -> Fp4 -> Prop
 | [], s, fp => C fp /\ k s
 | o :: r, s, fp => match o.guard with
  | none => h4s P (H4 P Γ N C k r) (HD4 P Γ N (⟨o.dst, o.op, none⟩ :: r) s fp C k) o.dst o.op s fp
  | some (t, want) => match getK s.env t with
   | some (.u (.bool b)) => zay o.dst s ∧ Cnd (b = want) (b = !want)
         (h4s P (H4 P Γ N C k r) (zhd P Γ N ⟨o.dst, o.op, none⟩ r (s.put (some t) (.u (.bool want))) fp C k) o.dst o.op (s.put (some t) (.u (.bool want))) fp)
         (H4 P Γ N C k r ((s.put (some t) (.u (.bool (!want)))).put o.dst .un) (fp ++ [([], [], 0)]))
   | some (.u (.oth v)) => v = undef /\ zay o.dst s /\ H4 P Γ N C k r (s.put o.dst .un) (fp ++ [([], [], 0)])
   | _ => False
theorem zqa {P s op} {ret : D -> Prop} (h : zbK op = none) : valD P s op ret = evPure P s op ret := by
 cases op
 case call c =>
  obtain ⟨callee, args, ts⟩ := c;cases callee <;> first | rfl | (simp [zbK] at h)
 all_goals rfl
theorem zwC {P Γ N C k} {R : St -> Fp4 -> Prop} {dst op s fp} {r : List O1} (hR : ∀ s fp, R s fp -> HD4 P Γ N r s fp C k) (h : h4s P R (zhd P Γ N ⟨dst, op, none⟩ r s fp C k) dst op s fp) : zhd P Γ N ⟨dst, op, none⟩ r s fp C k := by
 unfold h4s at h;split at h
 ·exact h
 ·rename_i hc;split at h
  ·rename_i he;exact zoo he (Lin.effD.1 _ _ (fun e h => ⟨h.1, h.2.1, hR _ _ h.2.2⟩) h)
  ·rename_i he;refine zdf (by simpa using he) ?_;rw [zqa hc];exact Lin.evPure.1 _ _ (fun d h => ⟨h.1, hR _ _ h.2⟩) h
def zxm : List O1 -> Bool
 | ⟨_, op, none⟩ :: _ => (zbK op).isNone
 | _ => true
theorem zwm {P Γ N C k} : ∀ {l s fp}, H4 P Γ N C k l s fp -> HD4 P Γ N l s fp C k
 | [], s, fp, h => zfn h.1 h.2
 | ⟨dst, op, g⟩ :: r, s, fp, h => by
  unfold H4 at h;cases g with
  | none =>
   simp only at h;by_cases hc : (zbK op).isSome = true
   ·unfold h4s at h;split at h
    ·exact h
    ·simp_all
   ·exact .of_h (zwC (fun _ _ => zwm) (by
     unfold h4s at h ⊢;split at h
     ·simp_all
     ·exact h))
  | some g =>
   obtain ⟨t, want⟩ := g;simp only at h;split at h
   ·rename_i b hb;obtain ⟨hp, hy, hn⟩ := h;exact zg9 hb hp (fun e => zwC (fun _ _ => zwm) (hy e)) (fun e => zwm (hn e))
   ·rename_i v hb;obtain ⟨rfl, hp, hn⟩ := h;exact zpO hb hp (zwm hn)
   ·exact h.elim
theorem zcA {P Γ N C k l s fp} (_ : zxm l = true) (h : H4 P Γ N C k l s fp) : HD4 P Γ N l s fp C k := zwm h
theorem zdx {P Γ s} {Q : Exit -> St -> Prop} {kt : Kt} {id : Nat} {l : List Oper} (hm : P.follows .mixedOrders = true) (hord : zoQ l = true) (hn0 : Γ.n0 <= s.next)
  (h : ∀ (C : Fp4 -> Prop) (k : St -> Prop), (∀ fp, zuy l fp = true -> C fp) -> (∀ s', zbf P Γ Q kt .normal s' -> k s') -> match zbz l.toArray l with | some l' => H4 P Γ s.next C k l' s [] | none => False) :
  V P Γ (.region id l.toArray true) s (zbf P Γ Q kt) := zeR hm hord hn0 fun C k hC hk => by
 have := h C k hC hk;split at this
 ·rename_i l' hl
  (try rw [hl])
  exact zwm this
 ·exact this.elim
section
variable {P : Program} {Γ : Ctx} {N : Nat} {C : Fp4 -> Prop} {k : St -> Prop} {s s' : St} {fp fp' : Fp4}
theorem zx5 {l z} (_ : (True /\ True) = z) (h : s = s') (h' : fp = fp') : H4 P Γ N C k l s fp = H4 P Γ N C k l s' fp' := by rw [h, h']
theorem zwI {R G d op z} (_ : (True /\ True) = z) (h : s = s') (h' : fp = fp') : h4s P R G d op s fp = h4s P R G d op s' fp' := by rw [h, h']
theorem zwL {l z} (_ : (True /\ True) = z) (h : s = s') (h' : fp = fp') : HD4 P Γ N l s fp C k = HD4 P Γ N l s' fp' C k := by rw [h, h']
theorem zvS {o l z} (_ : (True /\ True) = z) (h : s = s') (h' : fp = fp') : zhd P Γ N o l s fp C k = zhd P Γ N o l s' fp' C k := by rw [h, h']
attribute [congr] zx5 zwI zwL zvS
theorem zcQ : H4 P Γ N C k [] s fp = (C fp /\ k s) := rfl
theorem zcg {d op r} : H4 P Γ N C k (⟨d, op, none⟩ :: r) s fp = h4s P (H4 P Γ N C k r) (HD4 P Γ N (⟨d, op, none⟩ :: r) s fp C k) d op s fp := rfl
theorem zcR {d op r t want} : H4 P Γ N C k (⟨d, op, some (t, want)⟩ :: r) s fp = match getK s.env t with
   | some (.u (.bool b)) => zay d s /\ Cnd (b = want) (b = !want)
     (h4s P (H4 P Γ N C k r) (zhd P Γ N ⟨d, op, none⟩ r (s.put (some t) (.u (.bool want))) fp C k) d op (s.put (some t) (.u (.bool want))) fp)
     (H4 P Γ N C k r ((s.put (some t) (.u (.bool (!want)))).put d .un) (fp ++ [([], [], 0)]))
   | some (.u (.oth v)) => v = undef /\ zay d s /\ H4 P Γ N C k r (s.put d .un) (fp ++ [([], [], 0)])
   | _ => False := rfl
end
theorem EndW.z {P : Program} {Γ : Ctx} {fn : Func} {n0 N : Nat} {post : D -> List (Nat × Ob) -> Nat -> Prop} {e : Exit} {s : St} {rs : Array ResultVar} (O : List (Nat × Ob)) (hr : fn.results = rs)
  (h : (e = .normal \/ e = .ret) /\ n0 <= N /\ wkO s N O) (h3 : zea P s rs.toList fun ds => (zaC ds).under N = true /\ post (zaC ds) O N) : EndW P Γ fn n0 post e s := by
 subst hr;refine .here (.fin h.1 ?_);obtain ⟨_, h1, h2⟩ := h;exact zlo (fun ds h => FinOK.cut O N (fun p hp => ⟨(znB h2 hp).2.1, (znB h2 hp).1, (znB h2 hp).2.2⟩) h.1 h1 h.2) h3
theorem EndW.h {P : Program} {Γ : Ctx} {fn : Func} {n0 : Nat} {post : D -> List (Nat × Ob) -> Nat -> Prop} {e : Exit} {s : St} {rs : Array ResultVar} (hr : fn.results = rs)
  (h : (e = .normal \/ e = .ret) /\ n0 <= s.next /\ zea P s rs.toList fun ds => post (zaC ds) s.obs s.next) : EndW P Γ fn n0 post e s := by
 subst hr;exact .here (.fin h.1 (zlo (fun ds h' => FinOK.here h.2.1 h') h.2.2))
theorem PanG.k {Γ : Ctx} {post : Out -> List (Nat × Ob) -> Nat -> Prop} {ch : List PanicEntry} {s : St} (O : List (Nat × Ob)) (N : Nat) (h : Γ.n0 <= N /\ wkO s N O) (hp : post (.pan ch) O N) : PanG Γ post ch s :=
 ⟨⟨s.n, [], O, N⟩, Wk.cut rfl h.1 h.2 trivial trivial, h.1, hp⟩
theorem RetX.runW {P f fn c ds obs nx post nt} (hf : P.funcs[f]? = some fn) (hnt : fn.ntmps = nt) (hb : fn.body = some c) (hn : ds.length <= nt)
  (h : ∀ Γ : Ctx, Γ.n0 = nx -> (∀ ch s, PanG Γ post ch s -> Γ.pan ch s) -> V P Γ c (entry ds nt obs nx) (zbf P Γ (EndW P Γ fn nx fun d o n => post (.val d) o n) .done)) : RetX P f ds obs nx post := by
 subst hnt; exact RetX.of_bodyW hf hb hn h
end Go.VL
namespace Go.Proofs
open Go.Shelf
def Tryz.znu : Go.Shelf.Ren := ⟨fun | 189 => 57 | 125 => 82 | 257 => 81 | 128 => 111 | 129 => 112 | 294 => 102 | 295 => 103 | 296 => 104 | 297 => 105 | 298 => 106 | 299 => 107 | 216 => 108 | 300 => 109 | 301 => 110 | 328 => 127 | 329 => 128 | 330 => 129 | 331 => 130 | 332 => 131 | 215 => 132 | 343 => 143 | n => n, fun | 28 => 28 | 3 => 3 | 46 => 138 | 0 => 0 | 51 => 167 | 53 => 170 | 4 => 4 | 183 => 175 | 182 => 174 | 131 => 38 | 5 => 5 | 9 => 9 | 218 => 191 | 222 => 113 | 228 => 212 | 229 => 213 | n => n, fun | n => n⟩
theorem Tryz.zss : Go.Proofs.Lays.n189 Tryz.prog Tryz.znu := {
 mixed := by kernel_rfl
 f125 := Tryz.func82.trans (congrArg some (by kernel_rfl))
 f128 := Tryz.func111.trans (congrArg some (by kernel_rfl))
 f129 := Tryz.func112.trans (congrArg some (by kernel_rfl))
 f189 := Tryz.func57.trans (congrArg some (by kernel_rfl))
 f215 := Tryz.func132.trans (congrArg some (by kernel_rfl))
 f216 := Tryz.func108.trans (congrArg some (by kernel_rfl))
 f257 := Tryz.func81.trans (congrArg some (by kernel_rfl))
 f294 := Tryz.func102.trans (congrArg some (by kernel_rfl))
 f295 := Tryz.func103.trans (congrArg some (by kernel_rfl))
 f296 := Tryz.func104.trans (congrArg some (by kernel_rfl))
 f297 := Tryz.func105.trans (congrArg some (by kernel_rfl))
 f298 := Tryz.func106.trans (congrArg some (by kernel_rfl))
 f299 := Tryz.func107.trans (congrArg some (by kernel_rfl))
 f300 := Tryz.func109.trans (congrArg some (by kernel_rfl))
 f301 := Tryz.func110.trans (congrArg some (by kernel_rfl))
 f328 := Tryz.func127.trans (congrArg some (by kernel_rfl))
 f329 := Tryz.func128.trans (congrArg some (by kernel_rfl))
 f330 := Tryz.func129.trans (congrArg some (by kernel_rfl))
 f331 := Tryz.func130.trans (congrArg some (by kernel_rfl))
 f332 := Tryz.func131.trans (congrArg some (by kernel_rfl))
 f343 := Tryz.func143.trans (congrArg some (by kernel_rfl))
 t0 := Tryz.underlying0
 a0 := Tryz.isAgg0
 z0 := Tryz.sizeOf0
 v0 := Tryz.zeroValue0
 t3 := Tryz.underlying3
 a3 := Tryz.isAgg3
 z3 := Tryz.sizeOf3
 v3 := Tryz.zeroValue3
 t4 := Tryz.underlying4
 a4 := Tryz.isAgg4
 z4 := Tryz.sizeOf4
 v4 := Tryz.zeroValue4
 t5 := Tryz.underlying5
 a5 := Tryz.isAgg5
 z5 := Tryz.sizeOf5
 v5 := Tryz.zeroValue5
 t9 := Tryz.underlying9
 a9 := Tryz.isAgg9
 z9 := Tryz.sizeOf9
 v9 := Tryz.zeroValue9
 t28 := Tryz.underlying28
 a28 := Tryz.isAgg28
 z28 := Tryz.sizeOf28
 v28 := Tryz.zeroValue28
 t46 := Tryz.underlying138
 a46 := Tryz.isAgg138
 z46 := Tryz.sizeOf138
 v46 := Tryz.zeroValue138
 t51 := Tryz.underlying167
 a51 := Tryz.isAgg167
 z51 := Tryz.sizeOf167
 v51 := Tryz.zeroValue167
 t53 := Tryz.underlying170
 a53 := Tryz.isAgg170
 z53 := Tryz.sizeOf170
 v53 := Tryz.zeroValue170
 t131 := Tryz.underlying38
 a131 := Tryz.isAgg38
 z131 := Tryz.sizeOf38
 v131 := Tryz.zeroValue38
 t182 := Tryz.underlying174
 a182 := Tryz.isAgg174
 z182 := Tryz.sizeOf174
 v182 := Tryz.zeroValue174
 t183 := Tryz.underlying175
 a183 := Tryz.isAgg175
 z183 := Tryz.sizeOf175
 v183 := Tryz.zeroValue175
 t218 := Tryz.underlying191
 a218 := Tryz.isAgg191
 z218 := Tryz.sizeOf191
 v218 := Tryz.zeroValue191
 t222 := Tryz.underlying113
 a222 := Tryz.isAgg113
 z222 := Tryz.sizeOf113
 v222 := Tryz.zeroValue113
 t228 := Tryz.underlying212
 a228 := Tryz.isAgg212
 z228 := Tryz.sizeOf212
 v228 := Tryz.zeroValue212
 t229 := Tryz.underlying213
 a229 := Tryz.isAgg213
 z229 := Tryz.sizeOf213
 v229 := Tryz.zeroValue213 }
open Go.Sort Go.RowKit in
theorem Tryz.slices_Sort_int (blk off cap : Nat) (zs : List Int) (w : World) (hH : Holds (Value.int .i64) w blk off zs.toArray) (hblk : blk < w.heap.size) (hsz : zs.length < 4611686018427387904) :
  Calls Tryz.prog 57 #[.slice (some ⟨blk, off, none⟩) zs.length cap] w fun e w' =>
   e = .returned (.tuple #[]) /\ ∃ n os, w' = grow (putRow (Value.int .i64) (Sort.ahead w n) blk off (zs.mergeSort fun x y => decide (x <= y)).toArray) os := Any.slices_Sort_int Tryz.zss blk off cap zs w hH hblk hsz
def Tryz.znv : Go.Shelf.Ren := ⟨fun | 112 => 59 | n => n, fun | 28 => 28 | 3 => 3 | 4 => 4 | 0 => 0 | n => n, fun | n => n⟩
theorem Tryz.zst : Go.Proofs.Lays.n112 Tryz.prog Tryz.znv := {
 mixed := by kernel_rfl
 f112 := Tryz.func59.trans (congrArg some (by kernel_rfl))
 t0 := Tryz.underlying0
 a0 := Tryz.isAgg0
 z0 := Tryz.sizeOf0
 v0 := Tryz.zeroValue0
 t3 := Tryz.underlying3
 a3 := Tryz.isAgg3
 z3 := Tryz.sizeOf3
 v3 := Tryz.zeroValue3
 t4 := Tryz.underlying4
 a4 := Tryz.isAgg4
 z4 := Tryz.sizeOf4
 v4 := Tryz.zeroValue4
 t28 := Tryz.underlying28
 a28 := Tryz.isAgg28
 z28 := Tryz.sizeOf28
 v28 := Tryz.zeroValue28 }
open Go.RowKit Go.Lib Go.Sort in
theorem Tryz.slices_Reverse_int (blk off cap : Nat) (zs : List Int) (w : World) (hH : Holds (Value.int .i64) w blk off zs.toArray) (hsz : zs.length <= 9223372036854775807) :
  Calls Tryz.prog 59 #[.slice (some ⟨blk, off, none⟩) zs.length cap] w fun e w' => e = .returned (.tuple #[]) /\ ∃ n, w' = putRow (Value.int .i64) (Sort.ahead w n) blk off zs.reverse.toArray := Any.slices_Reverse_int Tryz.zst blk off cap zs w hH hsz
open Go.RowKit Go.Lib Go.Sort in
theorem Tryz.slices_Reverse_int_empty (a : Option Addr) (cap : Nat) (w : World) :
  Calls Tryz.prog 59 #[.slice a 0 cap] w fun e w' => e = .returned (.tuple #[]) /\ w' = w := Any.slices_Reverse_int_empty Tryz.zst a cap w
def Tryz.zkU : Go.Shelf.Ren := ⟨fun | 20 => 58 | n => n, fun | 22 => 28 | 3 => 3 | 4 => 4 | 0 => 0 | n => n, fun | n => n⟩
theorem Tryz.zmq : Go.Proofs.Lays2.n20 Tryz.prog Tryz.zkU := {
 mixed := by kernel_rfl
 f20 := Tryz.func58.trans (congrArg some (by kernel_rfl))
 t0 := Tryz.underlying0
 a0 := Tryz.isAgg0
 z0 := Tryz.sizeOf0
 v0 := Tryz.zeroValue0
 t3 := Tryz.underlying3
 a3 := Tryz.isAgg3
 z3 := Tryz.sizeOf3
 v3 := Tryz.zeroValue3
 t4 := Tryz.underlying4
 a4 := Tryz.isAgg4
 z4 := Tryz.sizeOf4
 v4 := Tryz.zeroValue4
 t22 := Tryz.underlying28
 a22 := Tryz.isAgg28
 z22 := Tryz.sizeOf28
 v22 := Tryz.zeroValue28
 i3 := by kernel_rfl }
open Go.RowKit Go.Lib Go.Sort in
theorem Tryz.slices_Compact_int (blk off cap : Nat) (zs : List Int) (w : World) (hH : Holds (Value.int .i64) w blk off zs.toArray) (hsz : zs.length <= 9223372036854775807) (hcap : zs.length <= cap) :
  Calls Tryz.prog 58 #[.slice (some ⟨blk, off, none⟩) zs.length cap] w fun e w' => e = .returned (.slice (some ⟨blk, off, none⟩) (Lib.compact zs).length cap) /\ ∃ q, w' = putRow (Value.int .i64) (Sort.ahead w q) blk off (Lib.compact zs ++ List.replicate (zs.length - (Lib.compact zs).length) 0).toArray := Any.slices_Compact_int Tryz.zmq blk off cap zs w hH hsz hcap
open Go.RowKit Go.Lib Go.Sort in
theorem Tryz.slices_Compact_int_empty (a : Option Addr) (cap : Nat) (w : World) :
  Calls Tryz.prog 58 #[.slice a 0 cap] w fun e w' => e = .returned (.slice a 0 cap) /\ w' = w := Any.slices_Compact_int_empty Tryz.zmq a cap w
open Go.RowKit Go.Sort in
theorem Tryz.slices_Sort_int_none (p : Option Addr) (cap : Nat) (w : World) :
  Calls Tryz.prog 57 #[.slice p 0 cap] w fun e w' => e = .returned (.tuple #[]) /\ w' = w := Any.slices_Sort_int_none Tryz.zss p cap w
end Go.Proofs
namespace Go.VL
open Go
def idF (b : Nat) : List Nat -> List (List D)
 | [] => []
 | m :: ms => [D.vec b m] :: idF (b + 1) ms
theorem zhw : ∀ (b : Nat) (ms : List Nat), (idF b ms).length = ms.length
 | _, [] => rfl
 | b, m :: ms => by simp [idF, zhw (b + 1) ms]
theorem zkE : ∀ (b : Nat) (ms : List Nat) (i m : Nat), ms[i]? = some m -> (idF b ms)[i]? = some [D.vec (i + b) m]
 | b, [], i, m, h => by simp at h
 | b, k :: ms, 0, m, h => by simp at h; simp [idF, h]
 | b, k :: ms, i + 1, m, h => by
  rw [idF, List.getElem?_cons_succ, zkE (b + 1) ms i m (by simpa using h), Nat.add_right_comm, zzA]
theorem zru : ∀ (b : Nat) (ms : List Nat) (i m : Nat), (idF b ms).set i [D.vec (i + b) m] = idF b (ms.set i m)
 | b, [], i, m => rfl
 | b, k :: ms, 0, m => by simp [idF]
 | b, k :: ms, i + 1, m => by
  rw [idF, List.set_cons_succ, List.set_cons_succ, idF, <- zru (b + 1) ms i m, Nat.add_right_comm, zzA]
theorem zna {b : Nat} {ms : List Nat} {r : List D} (h : r ∈ idF b ms) : ∃ i m, i < ms.length /\ r = [D.vec (i + b) m] := by
 obtain ⟨i, hi⟩ := List.getElem?_of_mem h;have hl := (List.getElem?_eq_some_iff.1 hi).1;rw [zhw] at hl;rw [zkE b ms i ms[i] (List.getElem?_eq_getElem hl)] at hi;cases hi;exact ⟨i, _, hl, rfl⟩
theorem zhv {b nx : Nat} {ms : List Nat} (h : ms.length + b <= nx) : (∀ x ∈ idF b ms, ∀ y ∈ x, D.under nx y = true) = True := eq_true fun r hr c hc => by
 obtain ⟨i, m, hi, rfl⟩ := zna hr;simp at hc;subst hc;simp only [D.under, decide_eq_true_eq];omega
theorem Wk.zCV {Γ : Ctx} {s : St} (j i e2 e sz : Nat) (rows : List (List D)) (hsz : 0 < sz) (hj : getK s.obs j = some (.vec e2 1 rows)) (hi : rows[i]? = some [.u .nil]) :
  Wk Γ s { s with obs := (s.next, .vec e sz []) :: zcw s.obs j (.vec e2 1 (rows.set i [.vec s.next 0])), next := s.next + 1 } := by
 intro k a w hin hs;obtain ⟨h1, h2⟩ := zsm e sz hsz hin hs;have hne : j ≠ s.next := fun h => by
  obtain ⟨g, h3, _⟩ := hs.sat.ob j _ hj;rw [h, hs.hdr s.next (Nat.le_refl _)] at h3;cases h3
 refine ⟨_, h1, ⟨?_, h2.defers, h2.size, h2.env, h2.hdr⟩⟩;have hj' : getK ((s.next, Ob.vec e sz []) :: s.obs) j = some (.vec e2 1 rows) := by rw [zaa, if_neg hne]; exact hj
 obtain ⟨g, hg, hg1, xs, h3, h4, h5, h6⟩ := h2.sat.ob j _ hj';have hlt := (List.getElem?_eq_some_iff.1 hi).1;refine Sat.congr (Sat.set h2.sat hj' hg (fun _ _ => rfl) (ob' := .vec e2 1 (rows.set i [.vec s.next 0])) ⟨xs, by simpa using h3, h4, fun r hr => ?_, fun y r hy q d hq => ?_⟩) fun y => ?_
 ·rcases List.mem_or_eq_of_mem_set hr with h | rfl
  ·exact h5 r h
  ·rfl
 ·rw [List.getElem?_set] at hy;by_cases hyi : i = y
  ·subst hyi;rw [if_pos rfl, if_pos hlt] at hy;cases hy;cases q with
   | zero =>
    simp at hq;subst hq;obtain ⟨h7, h8⟩ := h6 i _ hi 0 (.u .nil) rfl;refine ⟨h7, ?_⟩;rw [zdU h8];exact .vec s.next 0 (none, 0) (by simp [Kr.add])
   | succ q => simp at hq
  ·rw [if_neg hyi] at hy;exact h6 y r hy q d hq
 ·simp only [zaa, zad];by_cases hy : y = j
  ·subst hy; simp [hne]
  ·simp [hy]
theorem zgq (A : List (List D)) (n : Nat) : (A ++ List.replicate (n + 1) [D.u .nil])[A.length]? = some [.u .nil] := by simp [List.replicate_succ]
theorem Wk.zuL {Γ : Ctx} (j e2 e sz : Nat) (hsz : 0 < sz) (rest : List (Nat × Ob)) : ∀ (n : Nat) (A : List (List D)) (s : St), (∀ i ob, getK rest i = some ob -> i < s.next) -> j < s.next ->
  s.obs = (j, .vec e2 1 (A ++ List.replicate n [.u .nil])) :: rest ->
  Wk Γ s { s with obs := (j, .vec e2 1 (A ++ idF s.next (List.replicate n 0))) :: (fam s.next (List.replicate n (.vec e sz [])) ++ rest), next := s.next + n }
 | 0, A, s, _, _, h => by
  have : s = { s with obs := (j, .vec e2 1 (A ++ idF s.next (List.replicate 0 0))) :: (fam s.next (List.replicate 0 (.vec e sz [])) ++ rest), next := s.next + 0 } := by
   cases s;simp only at h;simp [h, idF, fam]
  rw [<- this];exact .refl s
 | n + 1, A, s, hr, hj, h => by
  have h1 := Wk.zCV (Γ := Γ) (s := s) j A.length e2 e sz _ hsz (by rw [h, zaa, if_pos rfl]) (zgq A n);have hset : (A ++ List.replicate (n + 1) [D.u .nil]).set A.length [D.vec s.next 0] = (A ++ [[D.vec s.next 0]]) ++ List.replicate n [D.u .nil] := by
   rw [List.set_append_right _ _ (Nat.le_refl _), Nat.sub_self, List.replicate_succ, List.set_cons_zero];simp
  rw [hset] at h1;have h2 := Wk.zuL (Γ := Γ) j e2 e sz hsz ((s.next, .vec e sz []) :: rest) n (A ++ [[D.vec s.next 0]]) { s with obs := (j, .vec e2 1 ((A ++ [[D.vec s.next 0]]) ++ List.replicate n [D.u .nil])) :: (s.next, .vec e sz []) :: rest, next := s.next + 1 }
   (fun i ob hi => by
     rw [zaa] at hi;by_cases hi2 : i = s.next
     ·simp only; omega
     ·rw [if_neg hi2] at hi;have := hr i ob hi;simp only; omega) (by simp only; omega) rfl
  refine h1.trans (Wk.trans (Wk.eqo (s' := { s with obs := (j, .vec e2 1 ((A ++ [[D.vec s.next 0]]) ++ List.replicate n [D.u .nil])) :: (s.next, .vec e sz []) :: rest, next := s.next + 1 }) ⟨rfl, fun x => ?_, rfl, fun x => rfl⟩) (h2.trans (Wk.eqo ⟨rfl, fun x => ?_, ?_, fun x => rfl⟩)))
  ·rw [h];simp only [zaa, zad];by_cases hx : x = s.next
   ·subst hx;rw [if_pos rfl, if_neg (by omega), if_pos rfl]
   ·rw [if_neg hx];by_cases hxj : x = j
    ·subst hxj; simp
    ·simp [hxj, hx]
  ·simp only [List.replicate_succ, idF, fam, List.append_assoc, List.cons_append, List.nil_append, zaa, zab];by_cases hxj : x = j
   ·simp [hxj]
   ·simp only [if_neg hxj];by_cases hx : x = s.next
    ·subst hx;rw [if_pos rfl, zf0, if_neg (by omega)];simp
    ·rw [if_neg hx];simp [hx]
  ·simp only;omega
theorem Wk.zvZ {Γ : Ctx} {s : St} (j e2 e sz n : Nat) (hsz : 0 < sz) (rest : List (Nat × Ob)) (hr : ∀ p ∈ rest, p.1 < s.next) (hj : j < s.next) (h : s.obs = (j, .vec e2 1 (List.replicate n [.u .nil])) :: rest) :
  Wk Γ s { s with obs := (j, .vec e2 1 (idF s.next (List.replicate n 0))) :: (rest ++ fam s.next (List.replicate n (.vec e sz []))), next := s.next + n } := by
 have hr2 : ∀ i ob, getK rest i = some ob -> i < s.next := fun i ob hi => by
  obtain ⟨p, hp, e⟩ := List.mem_map.1 (zfY hi);have := hr p hp;omega
 refine (Wk.zuL j e2 e sz hsz rest n [] s hr2 hj h).trans (Wk.eqo ⟨rfl, fun x => ?_, rfl, fun x => rfl⟩);simp only [List.nil_append, zaa, zab];by_cases hx : x = j
 ·simp [hx]
 ·rw [if_neg hx, if_neg hx];cases hq : getK rest x with
  | none => cases getK (fam s.next (List.replicate n (Ob.vec e sz []))) x <;> rfl
  | some ob =>
   have := hr2 x ob hq;rw [zf0, if_neg (by omega)]
theorem zdX (a b : List (Nat × Ob)) (j : Nat) : del (a ++ b) j = del a j ++ del b j := by simp [del]
theorem zpU {s : St} {c nx b : Nat} {L : List Ob} {i : Nat} {o : Ob} (h : ∀ q, q ≠ i -> q < L.length -> getK s.obs (q + b) = L[q]?) (hp : famPure L) (hp2 : famPure [o]) (hx : L.length + b <= nx) (hc : getK s.obs c = some o) : wkR s (zfA (i + b) c) nx (fam b (L.set i o)) := by
 refine (zpV s _ nx b _).2 fun q oq hq => ?_;have hlt := (List.getElem?_eq_some_iff.1 hq).1;rw [List.length_set] at hlt;refine ⟨by omega, ?_⟩;rw [List.getElem?_set] at hq;by_cases hqi : i = q
 ·subst hqi;rw [if_pos rfl, if_pos hlt] at hq;cases hq;rw [zfA, if_pos rfl, hc];obtain ⟨e, sz, B, rfl, hB⟩ := hp2 o (by simp);exact ⟨rfl, rfl, rfl, .inl hB⟩
 ·rw [if_neg hqi] at hq;rw [zfA, if_neg (by omega), h q (fun e => hqi e.symm) hlt, hq];obtain ⟨e, sz, B, rfl, hB⟩ := hp oq (List.mem_of_getElem? hq);exact ⟨rfl, rfl, rfl, .inl hB⟩
theorem Wk.zwY {Γ : Ctx} {s s' : St} (j b c i e2 m : Nat) (ms : List Nat) (O' : List (Nat × Ob)) (hn : s'.n = s.n) (h0 : Γ.n0 <= b) (h1 : Γ.n0 <= s'.next) (hc : s'.next <= c)
  (hjx : j < b) (hi : i < ms.length) (hb : ms.length + b <= s'.next) (hj : getK s.obs j = some (.vec e2 1 ((idF b ms).set i [.vec c m])))
  (hob : s'.obs = (j, .vec e2 1 (idF b (ms.set i m))) :: O') (he : zhQ s (zfA (i + b) c) s'.next s'.env) (ho : wkR s (zfA (i + b) c) s'.next O') : Wk Γ s s' := by
 have key : ∀ x ob', getK s'.obs x = some ob' -> x < s'.next /\ ∃ ob, getK s.obs (zfA (i + b) c x) = some ob /\ Ob.le (zfA (i + b) c) ob ob' /\ ob'.under s'.next = true := fun x ob' hx => by
  rw [hob, zaa] at hx;by_cases hxj : x = j
  ·subst hxj;rw [if_pos rfl] at hx;cases hx;refine ⟨by omega, .vec e2 1 ((idF b ms).set i [.vec c m]), by rw [zfA, if_neg (by omega)]; exact hj, ⟨rfl, rfl, by simp [zhw], fun q r r' hr hr' => ?_⟩, ?_⟩
   ·rw [<- zru] at hr';by_cases hqi : q = i
    ·subst hqi;have h2 : q < (idF b ms).length := by rw [zhw]; exact hi
     rw [List.getElem?_set_self h2] at hr hr';cases hr;cases hr';refine ⟨rfl, fun y d d' hd hd' => ?_⟩;cases y with
     | zero =>
      simp at hd hd';subst hd hd';right; left;simp [D.ren, zfA]
     | succ y => simp at hd
    ·rw [List.getElem?_set_ne (fun e => hqi e.symm)] at hr hr';rw [hr] at hr';cases hr';refine ⟨rfl, fun y d d' hd hd' => ?_⟩;rw [hd] at hd';cases hd';have hq := (List.getElem?_eq_some_iff.1 hr).1;rw [zhw] at hq;rw [zkE b ms q ms[q] (List.getElem?_eq_getElem hq)] at hr;cases hr;cases y with
     | zero =>
      simp at hd;subst hd;right; left;simp only [D.ren, zfA];rw [if_neg (by omega)]
     | succ y => simp at hd
   ·simp only [Ob.under, List.all_eq_true];intro r hr d hd;obtain ⟨q, m', hq, rfl⟩ := zna hr;simp at hd;subst hd;rw [List.length_set] at hq;simp only [D.under, decide_eq_true_eq];omega
  ·rw [if_neg hxj] at hx;exact zmB ho x ob' hx
 intro K0 a w hin0 hs0;refine ⟨_, Sim.weak (ρ := zfA (i + b) c) hin0 hs0 ⟨hn, fun x d' h => ?_, fun x d' h => ?_, key, fun x y ox oy hx hy e => ?_, fun x hx => ⟨by rw [zfA, if_neg (by omega)], by omega⟩⟩⟩
 ·obtain ⟨⟨d, h2, h3⟩, h4⟩ := zgF he x d' h;have : s.at x = d := by show (getK s.env x).getD .any = d; rw [h2]; rfl
  rw [this];exact ⟨h3, h4⟩
 ·obtain ⟨⟨d, h2, h3⟩, h4⟩ := zgF he x d' h;exact (hs0.env x d h2).1
 ·have h2 := (key x ox hx).1;have h3 := (key y oy hy).1;unfold zfA at e;split at e <;> split at e <;> omega
theorem Wk.zsn {Γ : Ctx} {j e2 e sz : Nat} (rest : List (Nat × Ob)) : ∀ (us : List (List (List U))) (b : Nat) (A : List (List U)) (s : St), j < b -> (∀ p ∈ s.env, zux b p.2) -> (∀ i ob, getK rest i = some ob -> i < b \/ b + us.length <= i) ->
  s.obs = (j, .vec e2 1 (rowsD A ++ idF b (us.map (·.length)))) :: (fam b (us.map fun r => .vec e sz (rowsD r)) ++ rest) -> Wk Γ s { s with obs := (j, .vec e2 1 (rowsD (A ++ us.map fun r => [.sl r]))) :: rest }
 | [], b, A, s, _, _, _, h => by
  have : s = { s with obs := (j, .vec e2 1 (rowsD (A ++ ([] : List (List (List U))).map fun r => [.sl r]))) :: rest } := by
   cases s;simp only at h;simp [h, idF, fam]
  rw [<- this];exact .refl s
 | r :: us, b, A, s, hj, he, hr, h => by
  have hb : getK s.obs b = some (.vec e sz (rowsD r)) := by
   rw [h, zaa, if_neg (by omega), zab, zzC, fam, zaa, if_pos rfl]
  refine (Wk.frz b [j] (us := r) hb (by simp)).trans ?_;refine Wk.trans (Wk.eqo (s' := { s with obs := (j, .vec e2 1 (rowsD (A ++ [[.sl r]]) ++ idF (b + 1) (us.map (·.length)))) :: (fam (b + 1) (us.map fun r => .vec e sz (rowsD r)) ++ rest) }) ⟨rfl, fun x => ?_, rfl, fun x => ?_⟩)
   (Wk.trans (Wk.zsn rest us (b + 1) (A ++ [[.sl r]]) _ (by omega) (fun p hp => zqE (he p hp)) (fun i ob hi => by have := hr i ob hi; simp only [List.length_cons] at this; omega) rfl) ?_)
  ·show getK (s.frz b r [j]).obs x = _;simp only [St.frz, St.frzS];rw [zlW, h];have hfr : VL.frzObS (za1 b r) (.vec e2 1 (rowsD A ++ idF b ((r :: us).map (·.length)))) = .vec e2 1 (rowsD (A ++ [[.sl r]]) ++ idF (b + 1) (us.map (·.length))) := by
    simp only [VL.frzObS, List.map_append, zan, zzC, idF, zzD];simp only [rowsD, List.map_append, zzC, zzD, List.append_assoc]
    congr 2
    have h1 : VL.frzS (za1 b r) (.vec b r.length) = .u (.sl r) := by
     simp only [VL.frzS, fv, za1];rw [if_pos ⟨trivial, Nat.le_refl _⟩];simp only;rw [List.take_of_length_le (Nat.le_refl _)]
    rw [h1];simp only [List.cons_append, List.nil_append, List.cons.injEq, true_and];refine zky fun q hq => zky fun c hc => ?_;obtain ⟨i, m, _, rfl⟩ := zna hq;simp at hc;subst hc;simp only [VL.frzS, fv, za1];rw [if_neg (by omega)]
   by_cases hxb : x = b
   ·subst hxb;rw [if_pos rfl, zaa, if_neg (by omega), zab, zf0, if_neg (by omega)];cases hq : getK rest x with
    | none => rfl
    | some ob => have := hr x ob hq; simp only [List.length_cons] at this; omega
   ·rw [if_neg hxb];simp only [List.contains_cons, List.contains_nil, Bool.or_false, zaa];by_cases hxj : x = j
    ·subst hxj;simp only [if_true, Option.map_some, beq_self_eq_true, hfr]
    ·have hbj : ¬ (x == j) = true := by simpa using hxj
     simp only [if_neg hxj, hbj, zzC, fam, zab, zaa, if_neg hxb];cases getK (fam (b + 1) (us.map fun r => Ob.vec e sz (rowsD r))) x <;> cases getK rest x <;> rfl
  ·show getK (s.env.map fun p => (p.1, VL.frzS (za1 b r) p.2)) x = _;rw [show (s.env.map fun p => (p.1, VL.frzS (za1 b r) p.2)) = s.env from zky fun p hp => by
    have := ztD (us := r) (he p hp) (Nat.le_refl b);simp only [VL.frz] at this;rw [this]]
  ·simp only [zzC, List.append_assoc, List.cons_append, List.nil_append];exact .refl _
theorem Wk.zv0 {Γ : Ctx} {s : St} (j b e2 e sz : Nat) (us : List (List (List U))) (rest : List (Nat × Ob)) (hj : j < b) (he : ∀ p ∈ s.env, zux b p.2) (hr : ∀ p ∈ rest, p.1 < b)
  (h : s.obs = (j, .vec e2 1 (idF b (us.map (·.length)))) :: (rest ++ fam b (us.map fun r => .vec e sz (rowsD r)))) : Wk Γ s { s with obs := (j, .vec e2 1 (rowsD (us.map fun r => [.sl r]))) :: rest } := by
 have hr2 : ∀ i ob, getK rest i = some ob -> i < b := fun i ob hi => by
  obtain ⟨p, hp, e⟩ := List.mem_map.1 (zfY hi);have := hr p hp;omega
 refine Wk.trans (Wk.eqo (s' := { s with obs := (j, .vec e2 1 (rowsD [] ++ idF b (us.map (·.length)))) :: (fam b (us.map fun r => .vec e sz (rowsD r)) ++ rest) }) ⟨rfl, fun x => ?_, rfl, fun x => rfl⟩) (Wk.zsn rest us b [] _ hj he (fun i ob hi => .inl (hr2 i ob hi)) rfl);rw [h];simp only [zaa, zab, rowsD, zzD, List.nil_append];by_cases hx : x = j
 ·simp [hx]
 ·rw [if_neg hx, if_neg hx];cases hq : getK rest x with
  | none => cases getK (fam b (us.map fun r => Ob.vec e sz (List.map (fun r => List.map D.u r) r))) x <;> rfl
  | some ob =>
   have := hr2 x ob hq;rw [zf0, if_neg (by omega)]
end Go.VL
namespace Go.VL
open Go
theorem znq {P Γ s} {fop : Operand} {args : Array Operand} {ts : Array TypeId} {ty : TypeId} {f caps dst pos after guard} {ds : List D} {L : List Nat} {post : D -> Prop}
  (hf : zam (opd s fop) = some (f, caps)) (hc : zae P f = true) (hds : zcm s (args.toList.map (opd s) ++ caps) = some (ds, L)) (hret : Fun P f ds post)
  {R : D -> Prop} (hM : ∀ (k : Kr) d v, post d -> Rep k d v -> ∃ d', R d' /\ ∀ K : Kr, Rep K d' v)
  {K : Kr} {a : Act} {w : World} (hin : In Γ K w) (hs : Sim K Γ.own s a w) {Kont : Act -> World -> Prop} {Q : Exit -> Act -> World -> Prop}
  (hK : ∀ v d w', In Γ K w' -> Sat K Γ.own s.obs w' -> Rep K d v -> R d -> Kont (a.put dst v) w') :
  Oper.wp P { dst, op := .call { callee := .value fop, args, argTypes := ts }, type := ty, pos, after, guard } a w Kont Q := by
 obtain ⟨vs, hrep, hrun⟩ := zh8 hs (args := args) (ts := ts) (ty := ty) hf hc dst pos after guard;obtain ⟨h1, h2, hLo⟩ := zi4 hs L (fun _ => none) (vs := vs.toList) hds (by simpa using hrep.1.symm) (fun j d hj => by simpa using hrep.2 j d hj) (fun _ h => h);unfold Oper.wp;rw [hrun];have hsat1 : Sat ⟨lentMem K L w, fun _ => none, ze0 hs L⟩ (fun b => w.heap.size <= b) [] w := ⟨fun b o v hv => by
   simp only [lentMem] at hv;split at hv
   ·exact hv
   ·exact hs.sat.mem b o v hv, fun i ob hi => by simp [VL.getK] at hi, fun i j x y h g b hx => by simp [VL.getK] at hx⟩
 refine Calls.mono (hret ⟨lentMem K L w, fun _ => none, ze0 hs L⟩ (fun b => w.heap.size <= b) w vs hsat1 (fun _ _ => rfl) (fun b hb => hb) ⟨by simpa using h1.symm, fun j d hj => by simpa using h2 j d hj⟩) ?_;rintro e w' ⟨v, d, obs', nx', k', rfl, hin', hsat', hhdr', hnx, hr, hpure, hpost⟩;have hheap : ∀ b, b < w.heap.size -> w'.heap[b]? = w.heap[b]? := fun b hb => hin'.block b (by simpa [Ctx.of] using hb);have hin2 : In Γ K w' := hin.step (.refl _) (fun b o v e => .inl e) hin'.os hin'.tape hin'.output hin'.size fun b hb => by
  rcases Nat.lt_or_ge b w.heap.size with h | h
  ·exact hheap b h
  ·exact absurd (hin.own_of_ge h) hb
 have hsat2 : Sat K Γ.own s.obs w' := hs.sat.keep (.refl _) (fun b hb => hheap b (hs.sat.lt hb)) (fun b o v hv => by
  rw [zd9 (hheap b (hs.sat.memLt hv))];exact hs.sat.mem b o v hv) (fun b ⟨i, ob, g, h3, h4, h5⟩ o => by
  obtain ⟨g', h6, h7, _⟩ := hs.sat.ob i ob h3;rw [h4] at h6;cases h6;exact (h7 b h5).2 o)
 obtain ⟨d', h7, h8⟩ := hM _ _ _ hpost hr;exact hK v d' w' hin2 hsat2 (h8 K) h7
theorem Eff.zur {P Γ s k} {fop : Operand} {args : Array Operand} {ts : Array TypeId} {ty : TypeId} {f caps dst pos after} {ds : List D} {L : List Nat} {post : D -> Prop}
  (hf : zam (opd s fop) = some (f, caps)) (hc : zae P f = true) (hds : zcm s (args.toList.map (opd s) ++ caps) = some (ds, L)) (hret : Fun P f ds post) {R : D -> Prop} (hM : ∀ (k : Kr) d v, post d -> Rep k d v -> ∃ d', R d' /\ ∀ K : Kr, Rep K d' v) (hp : zay dst s)
  (hk : ∀ d, R d -> k (s.put dst d)) :
  Eff P Γ { dst, op := .call { callee := .value fop, args, argTypes := ts }, type := ty, pos, after, guard := none } s k := by
 intro K a w hin hs Kont Q hK;refine znq hf hc hds hret hM hin hs fun v d w' h1 h4 h5 h6 => ?_;have hsim : Sim K Γ.own s a w' := ⟨h4, hs.defers, hs.size, fun x d hx => hs.env x d hx, fun i hi => hs.hdr i hi⟩;exact hK K _ w' _ h1 (hsim.put (by cases dst <;> simp_all [zay]) h5) (hk d h6)
section
variable {P : Program} {Γ : Ctx} {s : St} {k : St -> Prop} {dst : Option Tmp}
theorem CallP.zC1 {fop : Operand} {args : List Operand} {f caps} {ds : List D} {L : List Nat} {post : D -> Prop} (hret : Fun P f ds post) {R : D -> Prop} (hM : ∀ (k : Kr) d v, post d -> Rep k d v -> ∃ d', R d' /\ ∀ K : Kr, Rep K d' v)
  (hf : zam (opd s fop) = some (f, caps)) (hc : zae P f = true) (hds : zcm s (args.map (opd s) ++ caps) = some (ds, L)) (hp : zay dst s)
  (hk : ∀ d, R d -> k (s.put dst d)) : CallP P Γ fop args dst s k :=
 fun _ _ _ _ => Eff.p (Eff.zur hf hc hds hret hM hp hk)
theorem CallP.zy2 {fop : Operand} {args : List Operand} {f caps} {ds : List D} {L : List Nat} {r1 r2 : List (List U)} {us : List U} (hret : Fun P f ds (· = .tup (.u (.agg [.sl r1, .sl r2]) :: us.map .u)))
  (hf : zam (opd s fop) = some (f, caps)) (hc : zae P f = true) (hds : zcm s (args.map (opd s) ++ caps) = some (ds, L)) (hsc : us.all zbj = true) (hp : zay dst s)
  (hk : ∀ a1 n1 c1 a2 n2 c2, k (s.put dst (.tup (.agg [.u (.oth (.slice a1 n1 c1)), .u (.oth (.slice a2 n2 c2))] :: us.map .u)))) : CallP P Γ fop args dst s k := by
 refine CallP.zC1 hret (R := fun d => ∃ a1 n1 c1 a2 n2 c2, d = .tup (.agg [.u (.oth (.slice a1 n1 c1)), .u (.oth (.slice a2 n2 c2))] :: us.map .u)) ?_ hf hc hds hp ?_
 ·rintro k d v rfl h;obtain ⟨vs, hl, rfl, hr⟩ := zhm h;obtain ⟨ws, hl2, e2, hr2⟩ := zee (hr 0 _ rfl);have sl : ∀ {r : List (List U)} {v : Value}, RepU k.mem (.sl r) v -> ∃ a n c, v = .slice a n c := fun h => by
   cases h with
   | slE a c _ => exact ⟨a, 0, c, rfl⟩
   | sl => exact ⟨_, _, _, rfl⟩
  obtain ⟨a1, n1, c1, e3⟩ := sl (hr2 0 _ rfl);obtain ⟨a2, n2, c2, e4⟩ := sl (hr2 1 _ rfl);refine ⟨_, ⟨a1, n1, c1, a2, n2, c2, rfl⟩, fun K => .tup _ vs (by simpa using hl) fun j d hj => ?_⟩;cases j with
  | zero =>
   simp only [List.getElem?_cons_zero, Option.some.injEq] at hj;subst hj;rw [e2];refine .agg _ ws (by simpa using hl2) fun j d hj => ?_;rcases j with _ | _ | j
   ·simp at hj; subst hj; rw [e3]; exact .u _ _ (.oth _)
   ·simp at hj; subst hj; rw [e4]; exact .u _ _ (.oth _)
   ·simp at hj
  | succ j =>
   have hj' := hj;rw [List.getElem?_cons_succ, List.getElem?_map] at hj;obtain ⟨u, hu, rfl⟩ := Option.map_eq_some_iff.1 hj;have h9 := hr (j + 1) (.u u) (by rw [List.getElem?_cons_succ, List.getElem?_map, hu]; rfl);cases h9 with | u _ _ h9 => exact .u _ _ (h9.scalar (List.all_eq_true.1 hsc u (List.mem_of_getElem? hu)))
 ·rintro d ⟨a1, n1, c1, a2, n2, c2, rfl⟩;exact hk a1 n1 c1 a2 n2 c2
end
end Go.VL
namespace Go.VL
open Go
theorem zr8 {P : Program} {k own s a w} (hs : Sim k own s a w) {fop : Operand} {args : Array Operand} {ts : Array TypeId} {ty : TypeId} {f first} (hf : opd s fop = .bnd (.func f) first) (hc : zae P f = true)
  (dst : Option Tmp) (pos : String) (after : Array Edge) (g : Option (Nat × Bool)) :
  ∃ vs, RepL k (first ++ args.toList.map (opd s)) vs /\ (execOp a.eval { dst, op := .call { callee := .value fop, args, argTypes := ts }, type := ty, pos, after, guard := g }).run P w = .ok (.enter f vs) w := by
 have hr := zaX hs fop;rw [hf] at hr;obtain ⟨cv, hl, hv, hcap⟩ := zqq hr;refine ⟨cv.toArray ++ args.map a.eval, ⟨by simp [hl], fun j d hj => ?_⟩, ?_⟩
 ·by_cases hlt : j < first.length
  ·rw [List.getElem?_append_left hlt] at hj;have := hcap j d hj;have e : (cv.toArray ++ args.map a.eval).getD j undef = cv.getD j undef := by
    have hlt2 : j < cv.length := by omega
    simp [Array.getElem?_append, hlt2]
   rw [e];exact this
  ·rw [List.getElem?_append_right (Nat.le_of_not_lt hlt)] at hj;have := zfF hs args.toList (j - first.length) d hj;have e : (cv.toArray ++ args.map a.eval).getD j undef = (args.toList.map a.eval).getD (j - first.length) undef := by
    have hlt2 : ¬ j < cv.length := by omega
    simp [Array.getElem?_append, hlt2, hl]
   rw [e];exact this
 ·unfold zae at hc;split at hc
  ·rename_i fn hfn;simp at hc;obtain ⟨hb, hname⟩ := hc;have hb' : fn.body.isNone = false := by cases hbb : fn.body <;> simp_all
   have hname' : (fn.name == "runtime.NumGoroutine") = false := by simpa using hname
   simp only [execOp];simp [resolve, hv, Deferred.ofValue, invoke, callFunc, hfn, hname', hb', hname];intro h0;rw [h0] at hb;simp at hb
  ·cases hc
theorem EffP.zyg {P Γ s k} {fop : Operand} {args : Array Operand} {ts : Array TypeId} {ty : TypeId} {f first dst pos after} {ds : List D} {post : Out -> List (Nat × Ob) -> Nat -> Prop}
  (hf : opd s fop = .bnd (.func f) first) (hc : zae P f = true) (hds : first ++ args.toList.map (opd s) = ds) (hret : RetX P f ds s.obs s.next post) (hp : zay dst s)
  (hk : ∀ d obs' nx', s.next <= nx' -> post (.val d) obs' nx' -> k (({ s with obs := obs', next := nx' } : St).put dst d))
  (hx : ∀ ch obs' nx', s.next <= nx' -> post (.pan ch) obs' nx' -> ∃ s2, Wk Γ { s with obs := obs', next := nx' } s2 /\ Γ.pan ch s2) :
  EffP P Γ { dst, op := .call { callee := .value fop, args, argTypes := ts }, type := ty, pos, after, guard := none } s k := by
 intro K a w hin hs Kont Q hK hP;obtain ⟨vs, hrep, hrun⟩ := zr8 hs (args := args) (ts := ts) (ty := ty) hf hc dst pos after none;rw [hds] at hrep;unfold Oper.wp;rw [hrun];refine Calls.mono (hret K Γ.own w vs hs.sat hs.hdr (fun b hb => hin.own_of_ge hb) hrep) ?_;rintro e w' ⟨r, obs', nx', k', hr, hin', hsat', hhdr', hnx, hpost⟩;have hle : K.le k' := hin'.le;have hin2 : In Γ k' w' := hin.step hle (fun b o v e => hin'.memNew b o v e) hin'.os hin'.tape hin'.output hin'.size hin'.block;have hsim : Sim k' Γ.own ({ s with obs := obs', next := nx' } : St) a w' := ⟨hsat', hs.defers, hs.size, fun x d hx => ⟨(hs.env x d hx).1, (hs.env x d hx).2.mono hle⟩, hhdr'⟩;cases r with
 | val d =>
  obtain ⟨v, rfl, hr⟩ := hr;exact hK k' _ w' _ hin2 (hsim.put (by cases dst <;> simp_all [zay]) hr) (hk d obs' nx' hnx hpost)
 | pan ch =>
  obtain rfl := hr;obtain ⟨s2, hw, hpn⟩ := hx ch obs' nx' hnx hpost;obtain ⟨k2, g1, g2⟩ := hw k' a w' hin2 hsim;exact hP ch k2 a w' s2 g1 g2 hpn
theorem CallP.b_ {P : Program} {Γ : Ctx} {s : St} {k : St -> Prop} {dst : Option Tmp} {fop : Operand} {args : List Operand} {f first} {ds : List D} {post : Out -> List (Nat × Ob) -> Nat -> Prop} (hret : RetX P f ds s.obs s.next post)
  (hf : opd s fop = .bnd (.func f) first) (hc : zae P f = true) (hds : first ++ args.map (opd s) = ds) (hp : zay dst s)
  (hk : ∀ d obs' nx', s.next <= nx' -> post (.val d) obs' nx' -> k (({ s with obs := obs', next := nx' } : St).put dst d))
  (hx : ∀ ch obs' nx', s.next <= nx' -> post (.pan ch) obs' nx' -> ∃ s2, Wk Γ { s with obs := obs', next := nx' } s2 /\ Γ.pan ch s2) : CallP P Γ fop args dst s k :=
 fun _ _ _ _ => EffP.zyg hf hc hds hret hp hk hx
theorem CallP.bok {P : Program} {Γ : Ctx} {s : St} {k : St -> Prop} {dst : Option Tmp} {fop : Operand} {args : List Operand} {f first} {ds : List D} {j : Nat} {ob ob' : Ob} {d : D}
  (hret : RetX P f ds [(j, ob)] s.next fun r o n => r = .val d /\ o = [(j, ob')] /\ n = s.next) (hobs : s.obs = [(j, ob)])
  (hf : opd s fop = .bnd (.func f) first) (hc : zae P f = true) (hds : first ++ args.map (opd s) = ds) (hp : zay dst s)
  (hk : k (({ s with obs := [(j, ob')], next := s.next } : St).put dst d)) : CallP P Γ fop args dst s k :=
 CallP.b_ (hobs ▸ hret) hf hc hds hp (fun d' o1 nx' _ ⟨h1, h2, h3⟩ => by cases h1; subst h2; subst h3; exact hk) (fun ch o1 nx' _ ⟨h1, _⟩ => by cases h1)
end Go.VL
