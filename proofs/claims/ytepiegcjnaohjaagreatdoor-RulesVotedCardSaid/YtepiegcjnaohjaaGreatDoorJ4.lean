import Derived.Test.YtepiegcjnaohjaaGreatDoorJ3
import Derived.LaidMore
import Derived.LaidLaws
import Derived.LaidHandle
import Derived.MakeChecks
import Derived.Stop.Joined
import Derived.OpenShut
import Derived.Lib.RowBridge
import Derived.IntWalk
import Derived.Test.YtepiegcjnaohjaaGreatDoorTie
import Derived.Test.YtepiegcjnaohjaaGreatDoorCards
import Derived.Lib.LaidTab
set_option linter.all false
set_option maxRecDepth 100000
set_option maxHeartbeats 8000000
namespace Go.VL
open Go
def zrX (P : Program) (Γ : Ctx) (s : St) (op : Op) : Prop :=
 ∀ s' : St, s'.n = s.n -> (∀ y, getK s'.obs y = getK s.obs y) -> (∀ x ∈ op.operands, opd s' x = opd s x) -> s.next <= s'.next -> ∀ o : Oper, o.op = op -> o.guard = none -> zaI o.dst s' -> EffP P Γ o s' fun _ => False
def zsc (P : Program) (N : Nat) (s : St) (op : Op) (d : D) (W : Wr) (R : List Nat) : Prop :=
 ∃ fop args f caps, ∃ (O O' : List (Nat × Ob)) (L : List Nat), zb0 op = some (fop, args) /\ zaz (opd s fop) = some (f, caps) /\ zak P f = true /\ R = O.map (·.1) /\ W = (O'.filter fun p => L.contains p.1).map (fun p => (p.1, some p.2)) /\ O'.map (·.1) = O.map (·.1) /\
  (∀ y, L.contains y = false -> getK O' y = getK O y) /\ (∀ p ∈ O, getK s.obs p.1 = some p.2) /\ (O.map (·.1)).Nodup /\ (d.under N = true /\ ∀ p ∈ O', p.2.under N = true) /\
  ∀ nx, s.next <= nx -> RetX P f (args.map (opd s) ++ caps) O nx fun r o n => r = .val d /\ (∀ y, getK o y = getK O' y) /\ n = nx
def ztY (P : Program) (N : Nat) (s : St) (op : Op) (d : D) (W : Wr) (cr : Option Nat) (R : List Nat) : Prop :=
 ∃ fop args f caps, ∃ (O : List (Nat × Ob)) (e : ERes) (nb : Ob) (x0 : Nat), zb0 op = some (fop, args) /\ zaz (opd s fop) = some (f, caps) /\ zak P f = true /\ R = O.map (·.1) /\ (e.U = [] /\ e.nw = some nb /\ nb.under N = true) /\
  (cr = some x0 /\ W = (x0, some nb) :: e.U /\ d = mkD e.how x0) /\ (∀ p ∈ O, getK s.obs p.1 = some p.2) /\
  ∀ nx, s.next <= nx -> RetX P f (args.map (opd s) ++ caps) O nx fun r o n => r = .val (mkD e.how nx) /\ (∀ y, getK o y = getK ((nx, nb) :: O) y) /\ n = nx + 1
def zr0 (P : Program) (N : Nat) (s : St) (op : Op) (dst : Option Tmp) (d : D) (W : Wr) (cr : Option Nat) (R : List Nat) : Prop :=
 Op1 P s op dst d W cr R \/ (zsc P N s op d W R /\ cr = none) \/ ztY P N s op d W cr R
def zsT (P : Program) (N : Nat) (all : Array Oper) (s : St) (o : Oper) (d : D) (W : Wr) (cr : Option Nat) (R : List Nat) : Prop :=
 match o.guard with
 | none => zr0 P N s o.op o.dst d W cr R
 | some (j, want) => ∃ t, zaN all j = some t /\ ((∃ b, getK s.env t = some (.u (.bool b)) /\
  if b = want then zr0 P N s o.op o.dst d W cr R else d = .un /\ W = [] /\ cr = none) \/ (getK s.env t = some .un /\ d = .un /\ W = [] /\ cr = none))
theorem zcH {α : Type} (l : List (Nat × α)) (c : List Nat) (y : Nat) : getK (l.filter fun p => !c.contains p.1) y = if c.contains y = true then none else getK l y := by
 induction l with
 | nil => simp [getK]
 | cons p l ih =>
  obtain ⟨k, x⟩ := p;rw [List.filter_cons];by_cases hk : c.contains k = true
  ·rw [if_neg (by simpa using hk), ih, zaa];by_cases hy : y = k
   ·subst hy; rw [if_pos hk, if_pos hk]
   ·rw [if_neg hy]
  ·rw [if_pos (by simpa using hk), zaa, zaa, ih];by_cases hy : y = k
   ·subst hy; rw [if_pos rfl, if_pos rfl, if_neg hk]
   ·rw [if_neg hy, if_neg hy]
theorem zkj {α : Type} (l : List (Nat × α)) (c : List Nat) (y : Nat) : getK (l.filter fun p => c.contains p.1) y = if c.contains y = true then getK l y else none := by
 induction l with
 | nil => simp [getK]
 | cons p l ih =>
  obtain ⟨k, x⟩ := p;rw [List.filter_cons];by_cases hk : c.contains k = true
  ·rw [if_pos (by exact hk), zaa, zaa, ih];by_cases hy : y = k
   ·subst hy; rw [if_pos rfl, if_pos rfl, if_pos hk]
   ·rw [if_neg hy, if_neg hy]
  ·rw [if_neg (by exact hk), ih, zaa];by_cases hy : y = k
   ·subst hy; rw [if_neg hk, if_neg hk]
   ·rw [if_neg hy]
theorem ze3 {α : Type} {l : List (Nat × α)} {y : Nat} {x : α} (h : getK l y = some x) : (y, x) ∈ l := by
 induction l with
 | nil => cases h
 | cons p l ih =>
  obtain ⟨k, d⟩ := p;rw [zaa] at h;by_cases hyk : y = k
  ·rw [if_pos hyk] at h; cases h; subst hyk; simp
  ·rw [if_neg hyk] at h; exact List.mem_cons_of_mem _ (ih h)
theorem zc2 {α : Type} {l : List (Nat × α)} {y : Nat} (h : y ∈ l.map (·.1)) : ∃ x, getK l y = some x := by
 induction l with
 | nil => cases h
 | cons p l ih =>
  obtain ⟨k, d⟩ := p;rw [zaa];by_cases hyk : y = k
  ·exact ⟨d, by rw [if_pos hyk]⟩
  ·rw [if_neg hyk];simp only [List.map_cons, List.mem_cons] at h;exact ih (h.resolve_left hyk)
theorem zji (O : List (Nat × Ob)) (y : Nat) : getK (O.map fun p => (p.1, some p.2) : Wr) y = (getK O y).map some := by
 induction O with
 | nil => rfl
 | cons p l ih =>
  obtain ⟨k, d⟩ := p;rw [List.map_cons, zaa, zaa, ih];split <;> rfl
theorem zc5 {ρ : Nat -> Nat} {N M : Nat} (hρ : ∀ y, y < N -> ρ y = y) (hNM : N <= M) : ∀ {d : D}, d.under N = true -> Good ρ M d
 | .u x, _ => ⟨by simp [D.ren], by simp [D.under]⟩
 | .any, _ => ⟨by simp [D.ren], by simp [D.under]⟩
 | .ptr i off, h => by simp [D.under] at h; exact ⟨by simp [D.ren, hρ i h], by simp [D.under]; omega⟩
 | .vec i len, h => by simp [D.under] at h; exact ⟨by simp [D.ren, hρ i h], by simp [D.under]; omega⟩
 | .mp i, h => by simp [D.under] at h; exact ⟨by simp [D.ren, hρ i h], by simp [D.under]; omega⟩
 | .elt i sz idx off, h => by simp [D.under] at h; exact ⟨by simp [D.ren, hρ i h], by simp [D.under]; omega⟩
 | .fnc f caps, h => by
  have hc : ∀ c ∈ caps, Good ρ M c := fun c hc => zc5 hρ hNM (by rw [D.under] at h; simp only [List.all_map, List.all_eq_true] at h; exact h c hc);refine ⟨by rw [D.ren]; congr 1; exact (List.map_congr_left fun c hc' => (hc c hc').1).trans (List.map_id _), ?_⟩;rw [D.under];simp only [List.all_map, List.all_eq_true];exact fun c hc' => (hc c hc').2
 | .bnd f caps, h => by
  have hc : ∀ c ∈ caps, Good ρ M c := fun c hc => zc5 hρ hNM (by rw [D.under] at h; simp only [List.all_map, List.all_eq_true] at h; exact h c hc);refine ⟨by rw [D.ren]; congr 1; exact (List.map_congr_left fun c hc' => (hc c hc').1).trans (List.map_id _), ?_⟩;rw [D.under];simp only [List.all_map, List.all_eq_true];exact fun c hc' => (hc c hc').2
 | .agg caps, h => by
  have hc : ∀ c ∈ caps, Good ρ M c := fun c hc => zc5 hρ hNM (by rw [D.under] at h; simp only [List.all_map, List.all_eq_true] at h; exact h c hc);refine ⟨by rw [D.ren]; congr 1; exact (List.map_congr_left fun c hc' => (hc c hc').1).trans (List.map_id _), ?_⟩;rw [D.under];simp only [List.all_map, List.all_eq_true];exact fun c hc' => (hc c hc').2
 | .tup caps, h => by
  have hc : ∀ c ∈ caps, Good ρ M c := fun c hc => zc5 hρ hNM (by rw [D.under] at h; simp only [List.all_map, List.all_eq_true] at h; exact h c hc);refine ⟨by rw [D.ren]; congr 1; exact (List.map_congr_left fun c hc' => (hc c hc').1).trans (List.map_id _), ?_⟩;rw [D.under];simp only [List.all_map, List.all_eq_true];exact fun c hc' => (hc c hc').2
theorem zfV {ρ : Nat -> Nat} {N M : Nat} (hρ : ∀ y, y < N -> ρ y = y) (hNM : N <= M) {ob : Ob} (h : ob.under N = true) : ob.all (Good ρ M) := by
 cases ob with
 | it => trivial
 | nw => trivial
 | box cs => exact fun c hc => zc5 hρ hNM ((List.all_eq_true.1 h) c hc)
 | vec e sz rows => exact fun r hr c hc => zc5 hρ hNM ((List.all_eq_true.1 ((List.all_eq_true.1 h) r hr)) c hc)
 | map kk ag es => exact fun p hp c hc => zc5 hρ hNM ((List.all_eq_true.1 ((List.all_eq_true.1 h) p hp)) c hc)
theorem zo2 {ops : List Oper} (hord : zfx ops = true) : ∀ {i j : Nat} {y : Oper}, ops[j]? = some y -> zdE ops ops.length i j = true -> i < j := by
 have key : ∀ (n i j : Nat) (y : Oper), ops[j]? = some y -> zdE ops n i j = true -> i < j := by
  intro n
  induction n with
  | zero => intro i j y hj h; simp [zdE] at h
  | succ n ih =>
   intro i j y hj h;simp only [zdE, hj] at h;rw [List.any_eq_true] at h;obtain ⟨p, hp, h⟩ := h;have hlt := (zcA hord hj).1 p hp;simp only [Bool.or_eq_true, beq_iff_eq] at h;rcases h with rfl | h
   ·exact hlt
   ·have hpl : p < ops.length := by have := (lGE.1 hj).1; omega
    have := ih i p _ (List.getElem?_eq_getElem hpl) h;omega
 exact fun {i j y} hj h => key _ i j y hj h
theorem EffP.guard {P Γ s k} {dst op type pos after guard} (h : EffP P Γ { dst, op, type, pos, after, guard := none } s k) : EffP P Γ { dst, op, type, pos, after, guard } s k := h
def VA (P : Program) (Γ : Ctx) (ops : List Oper) (s : St) (R : Exit -> St -> Prop) : Prop :=
 ∀ K a w, In Γ K w -> Sim K Γ.own s a w -> wpAny P .any ops.toArray (VPost Γ R) ops.toArray.size (Array.replicate ops.toArray.size false) a { w with drawn := w.drawn + 1 }
set_option maxHeartbeats 4000000 in
theorem zqG {P Γ} {R0 : Exit -> St -> Prop} {ops : List Oper} {T : Nat -> D} {W : Nat -> Wr} {cr : Nat -> Option Nat} {R : Nat -> List Nat} {kd : Nat -> Nat} {s : St} {M : Nat}
  (hord : zfx ops = true) (hn0 : Γ.n0 <= s.next) (hM : s.next <= M)
  (hcr : ∀ i x, cr i = some x -> s.next <= x /\ x < M) (hcr1 : ∀ i j x, cr i = some x -> cr j = some x -> i = j)
  (hpair : ∀ i j, i < j -> j < ops.length -> zdE ops ops.length i j = false -> (∀ y ∈ zcx (W i), y ∉ R j /\ y ∉ zcx (W j)) /\ ∀ y ∈ zcx (W j), y ∉ R i)
  (hkd : ∀ i, kd i ≠ 0 -> W i = [] /\ cr i = none) (hstop : ∀ p i, kd p = 1 -> i < ops.length -> W i ≠ [] -> zdE ops ops.length i p = true \/ zdE ops ops.length p i = true)
  (hval : ∀ i o, ops[i]? = some o -> zaI o.dst s /\ if kd i = 2 then ∃ p, kd p = 1 /\ p < ops.length /\ zdE ops ops.length p i = true else if kd i = 1 then o.guard = none /\ zrX P Γ (stW ops T W s M fun j => decide (j < i)) o.op else
    zsT P s.next ops.toArray (stW ops T W s M fun j => decide (j < i)) o (T i) (W i) (cr i) (R i))
  (hfin : (∀ i, i < ops.length -> kd i ≠ 1) -> ∃ s', (stW ops T W s M fun _ => true).Eqo s' /\ R0 .normal s') : VA P Γ ops s R0 := by
 intro K a w hin hs;have hin0 : In Γ K { w with drawn := w.drawn + 1 } := ⟨hin.le, hin.none0, hin.memNew, hin.fresh, hin.os, hin.tape, hin.output, hin.size, hin.block⟩;have hs0 : Sim K Γ.own s a { w with drawn := w.drawn + 1 } := ⟨⟨hs.sat.mem, fun i ob hi => by
   obtain ⟨h, h1, h2, h3⟩ := hs.sat.ob i ob hi;exact ⟨h, h1, h2, h3.keep (.refl _) fun b e => rfl⟩, hs.sat.apart⟩, hs.defers, hs.size, hs.env, hs.hdr⟩
 generalize ({ w with drawn := w.drawn + 1 } : World) = w0 at hin0 hs0;have key : ∀ (fuel : Nat) (listed : Array Bool) (K : Kr) (a : Act) (w : World), listed.size = ops.length -> (listed.toList.filter (! ·)).length <= fuel ->
   (∀ j y, ops[j]? = some y -> listed.getD j false = true -> ∀ p ∈ zbP y, listed.getD p false = true) -> In Γ K w -> Sim K Γ.own (stW ops T W s M fun j => listed.getD j false) a w ->
   (∀ j x, j < ops.length -> listed.getD j false = false -> cr j = some x -> K.hdr x = none) -> (∀ p, kd p = 1 -> p < ops.length -> listed.getD p false = false) ->
   wpAny P .any ops.toArray (VPost Γ R0) fuel listed a w := by
  have allDone : ∀ (listed : Array Bool) (K : Kr) (a : Act) (w : World), (∀ p, kd p = 1 -> p < ops.length -> listed.getD p false = false) -> (∀ j, j < ops.length -> listed.getD j false = true) -> In Γ K w -> Sim K Γ.own (stW ops T W s M fun j => listed.getD j false) a w ->
    ∃ K' s', In Γ K' w /\ Sim K' Γ.own s' a w /\ R0 .normal s' := fun listed K a w hsp hall hin hs => by
   obtain ⟨s', he, hfin⟩ := hfin fun i hi hk => by have h1 := hsp i hk hi; rw [hall i hi] at h1; cases h1
   refine ⟨K, _, hin, Sim.eqo (hs.eqo ?_) he, hfin⟩;refine ⟨rfl, fun x => ?_, rfl, fun x => ?_⟩
   ·simp only [stW, zax];rw [zbv W _ (fun _ => true) x ops.length fun j hj _ => hall j hj]
   ·exact zbp T _ _ x ops 0 s.env s.env rfl fun j o hj _ => by
     have hl := (lGE.1 hj).1;simp only [Nat.zero_add];exact hall j hl
  have least : ∀ (listed : Array Bool), listed.size = ops.length -> ∀ i, i < ops.length -> listed.getD i false = false -> ∃ i0, i0 ∈ Region.ready .any ops.toArray listed := fun listed hsz i hi hu => by
   induction i using Nat.strongRecOn with
   | _ i ih =>
    have ho : ops[i]? = some ops[i] := List.getElem?_eq_getElem hi;by_cases hp : ∀ p ∈ zbP ops[i], listed.getD p false = true
    ·refine ⟨i, mem_ready.2 ⟨?_, ops[i], by simp, fun e he hb => hp e.on ?_⟩⟩
     ·have hi' : i < listed.size := by omega
      simp [hi'] at hu ⊢;exact hu
     ·simp only [zbP, List.mem_map, List.mem_filter];exact ⟨e, ⟨by simpa using he, hb⟩, rfl⟩
    ·simp only [Classical.not_forall] at hp;obtain ⟨p, hpm, hpu⟩ := hp;have hlt := (zcA hord ho).1 p hpm;exact ih p hlt (by omega) (by simpa using hpu)
  intro fuel
  induction fuel with
  | zero =>
   intro listed K a w hsz hcnt hcl hin hs _ hsp;have hall : ∀ j, j < ops.length -> listed.getD j false = true := fun j hj => by
    have hj' : j < listed.size := by omega
    have h0 : (listed.toList.filter (! ·)) = [] := List.eq_nil_of_length_eq_zero (by omega);have := (List.filter_eq_nil_iff.1 h0) listed[j] (by simp);simp only [Bool.not_eq_true', Bool.not_eq_false] at this;simp [hj', this]
   refine ⟨?_, .inl (allDone listed K a w hsp hall hin hs)⟩;refine List.eq_nil_iff_forall_not_mem.2 fun i hi => ?_;obtain ⟨h1, o, ho, _⟩ := mem_ready.1 hi;have hl : i < ops.length := by
    have := (Array.getElem?_eq_some_iff.1 ho).1;simpa using this
   have := hall i hl;have hi' : i < listed.size := by omega
   simp [hi'] at h1 this;rw [h1] at this;cases this
  | succ fuel ih =>
   intro listed K a w hsz hcnt hcl hin hs hfr hsp;refine ⟨fun hnil => .inl (allDone listed K a w hsp (fun j hj => ?_) hin hs), fun i hi => ?_⟩
   ·cases hu : listed.getD j false with
    | true => rfl
    | false =>
     obtain ⟨i0, h0⟩ := least listed hsz j hj hu;rw [hnil] at h0;cases h0
   ·obtain ⟨hun, o, ho, hall⟩ := mem_ready.1 hi;have ho' : ops[i]? = some o := by simpa using ho
    have hil := (lGE.1 ho').1;have hil' : i < listed.size := by omega
    have hunf : listed.getD i false = false := by simp [hil'] at hun ⊢; exact hun
    have hpred : ∀ p ∈ zbP o, listed.getD p false = true := fun p hp => by
     simp only [zbP, List.mem_map, List.mem_filter] at hp;obtain ⟨e, ⟨he, hb⟩, rfl⟩ := hp;exact hall e (by simpa using he) hb
    obtain ⟨hpo, hv⟩ := hval i o ho';have bef1 : ∀ j, zdE ops ops.length j i = true -> listed.getD j false = true := fun j hb => zcO hcl _ j i o ho' hpred hb;have bef2 : ∀ j x, ops[j]? = some x -> zdE ops ops.length i j = true -> listed.getD j false = false := fun j x hj hb => by
     cases hu : listed.getD j false with
     | false => rfl
     | true =>
      have := zcO hcl _ i j x hj (hcl j x hj hu) hb;rw [hunf] at this;cases this
    -- who writes a slot that this operation looks at, or writes
    have before : ∀ j x, ops[j]? = some x -> j < i -> zcW ops.toArray x o = true \/ zcW ops.toArray o x = true -> listed.getD j false = true := fun j x hj hlt hmm =>
     bef1 j ((zcA hord ho').2.2 j x hlt hj hmm)
    have behind : ∀ j x, ops[j]? = some x -> i < j -> zcW ops.toArray x o = true \/ zcW ops.toArray o x = true -> listed.getD j false = false := fun j x hj hlt hmm =>
     bef2 j x hj ((zcA hord hj).2.2 i o hlt ho' hmm.symm)
    have agree : ∀ t, t ∈ o.looksAt ops.toArray -> getK (zdj T (fun j => listed.getD j false) ops 0 s.env) t = getK (zdj T (fun j => decide (j < i)) ops 0 s.env) t := fun t ht => by
     refine zbp T _ _ t ops 0 s.env s.env rfl fun j x hj hx => ?_;simp only [Nat.zero_add];have hmm : zcW ops.toArray x o = true := by simp [zcW, hx, ht]
     rcases Nat.lt_trichotomy j i with h | h | h
     ·rw [before j x hj h (.inl hmm)]; simp [h]
     ·subst h; rw [hunf]; simp
     ·rw [behind j x hj h (.inl hmm)]; simp; omega
    have hopd : ∀ x ∈ o.op.operands, opd (stW ops T W s M fun j => decide (j < i)) x = opd (stW ops T W s M fun j => listed.getD j false) x := fun x hx => by
     cases x with
     | tmp t =>
      simp only [opd, St.at, stW];rw [agree t (List.mem_append_left _ (List.mem_filterMap.2 ⟨.tmp t, by simpa using hx, rfl⟩))]
     | _ => rfl
    -- who changes an object that this operation looks at
    have hloc : ∀ y ∈ R i, getK (stW ops T W s M fun j => decide (j < i)).obs y = getK (stW ops T W s M fun j => listed.getD j false).obs y := fun y hy => by
     simp only [stW, zax];rw [zbv W (fun j => decide (j < i)) (fun j => listed.getD j false) y ops.length fun j hj hk => ?_];rcases Nat.lt_trichotomy j i with h | h | h
     ·have hb : zdE ops ops.length j i = true := by
       cases hb : zdE ops ops.length j i with
       | true => rfl
       | false => exact absurd hy (((hpair j i h hil hb).1 y hk).1)
      rw [bef1 j hb];simp [h]
     ·subst h; rw [hunf]; simp
     ·have hb : zdE ops ops.length i j = true := by
       cases hb : zdE ops ops.length i j with
       | true => rfl
       | false => exact absurd hy ((hpair i j h hj hb).2 y hk)
      rw [bef2 j _ (List.getElem?_eq_getElem hj) hb];simp; omega
    have hlast : ∀ y ∈ zcx (W i), ∀ j, j < ops.length -> i < j -> y ∈ zcx (W j) -> listed.getD j false = false := fun y hy j hj hlt hk => by
     have hb : zdE ops ops.length i j = true := by
      cases hb : zdE ops ops.length i j with
      | true => rfl
      | false => exact absurd hk ((hpair i j hlt hj hb).1 y hy).2
     exact bef2 j _ (List.getElem?_eq_getElem hj) hb
    have hS : (fun j => (listed.setIfInBounds i true).getD j false) = fun j => listed.getD j false || j == i := funext fun j => by
     by_cases hji : j = i
     ·subst hji; simp [hil']
     ·simp [Array.getElem?_setIfInBounds_ne (Ne.symm hji), hji]
    -- the slots behind this operation
    have henv : ∀ (x : Nat), o.dst = some x -> getK (zdj T (fun j => listed.getD j false || j == i) ops 0 s.env) x = some (T i) := fun x hdx =>
     zf4 T _ i x ops 0 s.env i o ho' (by omega) hdx fun j o' hj hlt hd' => by
      rw [Nat.zero_add];exact behind j o' hj hlt (.inl (by simp [zcW, hd', hdx]))
    have henv' : ∀ (x : Nat), o.dst ≠ some x -> getK (zdj T (fun j => listed.getD j false || j == i) ops 0 s.env) x = getK (zdj T (fun j => listed.getD j false) ops 0 s.env) x := fun x hdx =>
     zbp T _ (fun j => listed.getD j false) x ops 0 s.env s.env rfl fun j o' hj hd' => by
      simp only [Nat.zero_add];have : j ≠ i := fun e => by subst e; rw [ho'] at hj; cases hj; exact hdx hd'
      simp [this]
    -- an operation after one that panics is never ready
    by_cases hk2 : kd i = 2
    ·rw [if_pos hk2] at hv;obtain ⟨p, hp1, hp2, hp3⟩ := hv;have := bef1 p hp3;rw [hsp p hp1 hp2] at this;cases this
    rw [if_neg hk2] at hv;by_cases hk1 : kd i = 1
    ·rw [if_pos hk1] at hv;obtain ⟨hg, hst⟩ := hv;unfold wpOp;rw [ho];simp only [Region.wanted, hg, if_true];refine .inl (hst (stW ops T W s M fun j => listed.getD j false) rfl (fun y => ?_) (fun x hx => (hopd x hx).symm) (Nat.le_refl _) o rfl hg hpo K a w hin hs _ _ (fun _ _ _ _ _ _ h => h.elim) fun ch K' a' w' s' h1 h2 h3 => .inl ⟨K', s', h1, h2, h3⟩);simp only [stW, zax];rw [zbv W (fun j => listed.getD j false) (fun j => decide (j < i)) y ops.length fun j hj hk => ?_];have hne : W j ≠ [] := fun e => by rw [e] at hk; cases hk
     rcases hstop i j hk1 hj hne with hb | hb
     ·have h1 := bef1 j hb;have hji : j < i := by
       rcases Nat.lt_trichotomy j i with h | h | h
       ·exact h
       ·subst h; rw [hunf] at h1; cases h1
       ·have := zo2 hord ho' hb; omega
      rw [h1]; simp [hji]
     ·have h1 := bef2 j _ (List.getElem?_eq_getElem hj) hb;have hji : ¬ j < i := by have := zo2 hord (List.getElem?_eq_getElem hj) hb; omega
      rw [h1]; simp [hji]
    rw [if_neg hk1] at hv;have go : ∀ K' a' w', In Γ K' w' -> Sim K' Γ.own (stW ops T W s M fun j => listed.getD j false || j == i) a' w' ->
      (∀ j x, j < ops.length -> (listed.getD j false || j == i) = false -> cr j = some x -> K'.hdr x = none) ->
      wpAny P .any ops.toArray (VPost Γ R0) fuel (listed.setIfInBounds i true) a' w' := fun K' a' w' h1 h2 h3 => by
     have hS' : ∀ j, (listed.setIfInBounds i true).getD j false = (listed.getD j false || j == i) := fun j => congrFun hS j;refine ih (listed.setIfInBounds i true) K' a' w' (by simp [hsz]) ?_ (fun j y hj hSj p hp => ?_) h1 (by rw [hS]; exact h2) (fun j x hj hu => h3 j x hj (by rw [<- hS']; exact hu)) (fun p hp1 hp2 => by
      rw [hS', hsp p hp1 hp2];have : p ≠ i := fun e => hk1 (e ▸ hp1);simp [this])
     ·have cnt : ∀ (l : List Bool) (n : Nat), l[n]? = some false -> ((l.set n true).filter (! ·)).length + 1 = (l.filter (! ·)).length := by
       intro l
       induction l with
       | nil => intro n h; simp at h
       | cons b l ih =>
               intro n h;cases n with
               | zero => simp at h; subst h; simp
               | succ n =>
                have := ih n (by simpa using h);cases b <;> simp at this ⊢ <;> omega
      have := cnt listed.toList i (by
       rw [Array.getElem?_toList, Array.getElem?_eq_getElem hil'];simp [hil'] at hunf;rw [hunf])
      rw [Array.toList_setIfInBounds];omega
     ·rw [hS'] at hSj ⊢;simp only [Bool.or_eq_true, beq_iff_eq] at hSj ⊢;rcases hSj with hSj | rfl
      ·exact .inl (hcl j y hj hSj p hp)
      ·rw [ho'] at hj;cases hj;exact .inl (hpred p hp)
    -- an operation that changes nothing
    have next : W i = [] -> ∀ K' v w', In Γ K' w' -> K.le K' -> K'.hdr = K.hdr -> Sat K' Γ.own (stW ops T W s M fun j => listed.getD j false).obs w' -> Rep K' (T i) v ->
      wpAny P .any ops.toArray (VPost Γ R0) fuel (listed.setIfInBounds i true) (a.put o.dst v) w' := fun hW K' v w' h1 h2 h3 h4 h5 => by
     refine go K' _ w' h1 ?_ fun j x hj hu hc => by
      rw [h3];simp only [Bool.or_eq_false_iff] at hu;exact hfr j x hj hu.1 hc
     have hdef : (a.put o.dst v).defers = Γ.own.dfr := by cases o.dst <;> exact hs.defers
     have hsize : (a.put o.dst v).tmps.size = s.n := by
      have hsz2 : a.tmps.size = s.n := hs.size;cases o.dst <;> simp [Act.put, hsz2]
     refine ⟨h4.eqo fun y => ?_, hdef, hsize, fun x d hx => ?_, fun j hj => by rw [h3]; exact hs.hdr j hj⟩
     ·simp only [stW, zax];rw [zbv W (fun j => listed.getD j false) (fun j => listed.getD j false || j == i) y ops.length fun j hj hk => ?_];by_cases hji : j = i
      ·subst hji; rw [hW] at hk; cases hk
      ·simp [hji]
     ·simp only [stW] at hx;by_cases hdx : o.dst = some x
      ·rw [henv x hdx] at hx;cases hx;have hlt : x < s.n := by rw [hdx] at hpo; exact hpo
       refine ⟨hlt, ?_⟩;have hsz' : a.tmps.size = s.n := hs.size;rw [hdx];simpa [Act.put, hsz', hlt] using h5
      ·rw [henv' x hdx] at hx;obtain ⟨g1, g2⟩ := hs.env x d hx;refine ⟨g1, ?_⟩
       have e : (a.put o.dst v).tmps.getD x undef = a.tmps.getD x undef := by
               cases hd : o.dst with
               | none => rfl
               | some y =>
                have hne : y ≠ x := fun e => hdx (by rw [hd, e]);simp [Act.put, Array.getElem?_setIfInBounds_ne hne]
       rw [e];exact g2.mono h2
    unfold wpOp;rw [ho];simp only;have two : (Region.wanted o (yielded ops.toArray a.tmps) = true /\ zr0 P s.next (stW ops T W s M fun j => decide (j < i)) o.op o.dst (T i) (W i) (cr i) (R i)) \/ (Region.wanted o (yielded ops.toArray a.tmps) = false /\ T i = .un /\ W i = []) := by
     unfold zsT at hv;split at hv
     ·rename_i hg;exact .inl ⟨by simp [Region.wanted, hg], hv⟩
     ·rename_i j want hg;obtain ⟨t, ht, hv⟩ := hv;have lift : ∀ dd, getK (stW ops T W s M fun j => decide (j < i)).env t = some dd -> getK (stW ops T W s M fun j => listed.getD j false).env t = some dd := fun dd hb => by
       simp only [stW] at hb ⊢
       rw [agree t (by
               refine List.mem_append_right _ ?_;unfold zaN at ht;simp only [hg];rw [ht];simp)]
       exact hb
      rcases hv with ⟨b, hb, hv⟩ | ⟨hb, hv⟩
      ·have hb' := lift _ hb;obtain ⟨hlt, hr⟩ := hs.getK hb';have hbv := zcK hr
       have hyd : yielded ops.toArray a.tmps j = some b := by
               unfold yielded;unfold zaN at ht;rw [ht];simp only [Option.bind_some];have : a.tmps[t]? = some (.bool b) := by
                rw [Array.getElem?_eq_getElem hlt];simp [hlt] at hbv;rw [hbv]
               rw [this]
       by_cases hbw : b = want
       ·rw [if_pos hbw] at hv;exact .inl ⟨by simp [Region.wanted, hg, hyd, hbw], hv⟩
       ·rw [if_neg hbw] at hv;exact .inr ⟨by simp [Region.wanted, hg, hyd, hbw], hv.1, hv.2.1⟩
      ·have hb' := lift _ hb;obtain ⟨hlt, hr⟩ := hs.getK hb';have hbv := zdc hr
       have hyd : yielded ops.toArray a.tmps j = none := by
               unfold yielded;unfold zaN at ht;rw [ht];simp only [Option.bind_some];have : a.tmps[t]? = some undef := by
                rw [Array.getElem?_eq_getElem hlt];simp [hlt] at hbv;rw [hbv]
               rw [this]
               try rfl
       exact .inr ⟨by simp [Region.wanted, hg, hyd], hv.1, hv.2.1⟩
    rcases two with ⟨hw, hv⟩ | ⟨hw, hv⟩
    ·rw [if_pos hw]
     let un : Nat -> Prop := fun y => ∃ j, j < ops.length /\ (listed.getD j false || j == i) = false /\ cr j = some y
     let ρ : Nat -> Nat := fun y => open Classical in if cr i = some y then M else if un y then M + 1 + y else y
     have hknown : ∀ y h, K.hdr y = some h -> ρ y = y /\ y < M := fun y h hy => by
      have h1 : cr i ≠ some y := fun e => by rw [hfr i y hil hunf e] at hy; cases hy
      have h2 : ¬ un y := fun ⟨j, hj, hu, hc⟩ => by
       simp only [Bool.or_eq_false_iff] at hu;rw [hfr j y hj hu.1 hc] at hy;cases hy
      refine ⟨by simp only [ρ]; rw [if_neg h1, if_neg h2], ?_⟩;rcases Nat.lt_or_ge y M with h | h
      ·exact h
      ·rw [hs.hdr y h] at hy; cases hy
     have hobs : ∀ y ob, getK (stW ops T W s M fun j => listed.getD j false).obs y = some ob -> (ρ y = y /\ y < M) /\ ob.all (Good ρ M) := fun y ob hy => by
      have hok := hs.sat.ob y ob hy;obtain ⟨h, h1, _⟩ := hok;exact ⟨hknown y h h1, (hs.sat.ob y ob hy).good hknown⟩
     have hρs0 : ∀ y, y < s.next -> ρ y = y := fun y hy => by
      have c1 : cr i ≠ some y := fun e => by have := (hcr i y e).1; omega
      have c2 : ¬ un y := fun ⟨j, _, _, hc⟩ => by have := (hcr j y hc).1; omega
      simp only [ρ];rw [if_neg c1, if_neg c2]
     have mk : ∀ e' : ERes, (∀ p ∈ e'.U, ∀ ob, p.2 = some ob -> ob.all (Good ρ M) /\ ∃ o, getK (stW ops T W s M fun j => listed.getD j false).obs p.1 = some o) -> (∀ ob, e'.nw = some ob -> ob.all (Good ρ M)) ->
       (match e'.nw with | none => o.dst = none /\ W i = e'.U /\ cr i = none | some ob => ∃ x, cr i = some x /\ W i = (x, some ob) :: e'.U /\ T i = mkD e'.how x) ->
       ∀ K' a' w', In Γ K' w' -> Sim K' Γ.own ((stW ops T W s M fun j => listed.getD j false).effS e' o.dst) a' w' -> wpAny P .any ops.toArray (VPost Γ R0) fuel (listed.setIfInBounds i true) a' w' := by
      intro e' hgU hgN hcase K' a' w' h1 h2;have hle : St.Le Γ.n0 ρ ((stW ops T W s M fun j => listed.getD j false).effS e' o.dst) (stW ops T W s M fun j => listed.getD j false || j == i) := by
       have hWi : ∀ y, y ∈ zcx (W i) → getK (zdI W (fun j => listed.getD j false || j == i) ops.length) y = getK (W i) y := fun y hy =>
               zfK W _ i y hy ops.length hil fun j hj hlt hk => hlast y hy j hj hlt hk
       have hWn : ∀ y, y ∉ zcx (W i) → getK (zdI W (fun j => listed.getD j false || j == i) ops.length) y = getK (zdI W (fun j => listed.getD j false) ops.length) y := fun y hy =>
               zbv W _ _ y ops.length fun j hj hk => by
                by_cases hji : j = i
                ·subst hji; exact absurd hk hy
                ·simp [hji]
       have hinj : ∀ y1 y2, y1 < M → y2 < M → ρ y1 = ρ y2 → y1 = y2 := fun y1 y2 g1 g2 hr => by
               simp only [ρ] at hr;by_cases c1 : cr i = some y1 <;> by_cases c2 : cr i = some y2
               ·rw [c1] at c2; cases c2; rfl
               ·rw [if_pos c1, if_neg c2] at hr;split at hr <;> omega
               ·rw [if_neg c1, if_pos c2] at hr;split at hr <;> omega
               ·rw [if_neg c1, if_neg c2] at hr;split at hr <;> split at hr <;> omega
       have hobs2 : ∀ y ob', getK (stW ops T W s M fun j => listed.getD j false || j == i).obs y = some ob' → y < M ∧
                ∃ ob, getK ((stW ops T W s M fun j => listed.getD j false).effS e' o.dst).obs (ρ y) = some ob /\ Ob.le ρ ob ob' /\ ob'.under M = true := fun y ob' hy => by
               simp only [stW, zax] at hy;cases hn : e'.nw with
               | none =>
                rw [hn] at hcase;obtain ⟨hd0, hWU, hcn⟩ := hcase;have hob : ∀ z, getK ((stW ops T W s M fun j => listed.getD j false).effS e' o.dst).obs z = match getK (W i) z with | some x => x | none => getK (stW ops T W s M fun j => listed.getD j false).obs z := fun z => by
                 simp only [St.effS, hn, zax, hWU]
                 try rfl
                by_cases hk : y ∈ zcx (W i)
                ·rw [hWi y hk] at hy;obtain ⟨x, hx⟩ := zc6 (W i) y hk;rw [hx] at hy;simp only at hy;subst hy;have hmem : (y, some ob') ∈ e'.U := by
                  rw [<- hWU];have : ∀ (l : Wr), getK l y = some (some ob') -> (y, some ob') ∈ l := by
                   intro l
                   induction l with
                   | nil => intro h; cases h
                   | cons p l ih =>
                    obtain ⟨k', d'⟩ := p;intro h;rw [zaa] at h;by_cases hyk : y = k'
                    ·rw [if_pos hyk] at h; cases h; subst hyk; simp
                    ·rw [if_neg hyk] at h; exact List.mem_cons_of_mem _ (ih h)
                  exact this _ hx
                 obtain ⟨hga, o0, ho0⟩ := hgU _ hmem ob' rfl;obtain ⟨⟨hr, hlt⟩, _⟩ := hobs y o0 ho0;refine ⟨hlt, ob', ?_, (Ob.zbO hga).1, (Ob.zbO hga).2⟩;rw [hr, hob, hx]
                ·rw [hWn y hk] at hy;obtain ⟨⟨hr, hlt⟩, hga⟩ := hobs y ob' (by simp only [stW, zax]; exact hy);refine ⟨hlt, ob', ?_, (Ob.zbO hga).1, (Ob.zbO hga).2⟩;rw [hr, hob, zbK (W i) y hk];simp only [stW, zax];exact hy
               | some nb =>
                rw [hn] at hcase;obtain ⟨x0, hcx, hWU, hTi⟩ := hcase;have hx0 := hcr i x0 hcx;have hob : ∀ z, z ≠ M -> getK ((stW ops T W s M fun j => listed.getD j false).effS e' o.dst).obs z = match getK e'.U z with | some x => x | none => getK (stW ops T W s M fun j => listed.getD j false).obs z := fun z hz => by
                 have : ∀ (q : St) (d : D), (q.put o.dst d).obs = q.obs := fun q d => by cases o.dst <;> rfl
                 simp only [St.effS, hn, this, zaa];rw [if_neg (by simpa [stW] using hz), zax]
                 try rfl
                have hobM : getK ((stW ops T W s M fun j => listed.getD j false).effS e' o.dst).obs M = some nb := by
                 have : ∀ (q : St) (d : D), (q.put o.dst d).obs = q.obs := fun q d => by cases o.dst <;> rfl
                 simp only [St.effS, hn, this, zaa];rw [if_pos (by simp [stW])]
                by_cases hyx : y = x0
                ·subst hyx;have hk : y ∈ zcx (W i) := by rw [hWU]; simp [zcx]
                 rw [hWi y hk, hWU, zaa, if_pos rfl] at hy;simp only at hy;cases hy;have hga := hgN ob' hn;refine ⟨hx0.2, ob', ?_, (Ob.zbO hga).1, (Ob.zbO hga).2⟩;simp only [ρ];rw [if_pos hcx];exact hobM
                ·by_cases hk : y ∈ zcx (W i)
                 ·rw [hWi y hk, hWU, zaa, if_neg hyx] at hy;have hk' : y ∈ e'.U.map (·.1) := by
                   rw [hWU] at hk;simp only [zcx, List.map_cons, List.mem_cons] at hk;exact hk.resolve_left hyx
                  obtain ⟨x, hx⟩ := zc6 e'.U y hk';rw [hx] at hy;simp only at hy;subst hy;have hmem : (y, some ob') ∈ e'.U := by
                   have : ∀ (l : Wr), getK l y = some (some ob') -> (y, some ob') ∈ l := by
                    intro l
                    induction l with
                    | nil => intro h; cases h
                    | cons p l ih =>
                     obtain ⟨k', d'⟩ := p;intro h;rw [zaa] at h;by_cases hyk : y = k'
                     ·rw [if_pos hyk] at h; cases h; subst hyk; simp
                     ·rw [if_neg hyk] at h; exact List.mem_cons_of_mem _ (ih h)
                   exact this _ hx
                  obtain ⟨hga, o0, ho0⟩ := hgU _ hmem ob' rfl;obtain ⟨⟨hr, hlt⟩, _⟩ := hobs y o0 ho0;refine ⟨hlt, ob', ?_, (Ob.zbO hga).1, (Ob.zbO hga).2⟩;rw [hr, hob y (by omega), hx]
                 ·rw [hWn y hk] at hy;obtain ⟨⟨hr, hlt⟩, hga⟩ := hobs y ob' (by simp only [stW, zax]; exact hy);refine ⟨hlt, ob', ?_, (Ob.zbO hga).1, (Ob.zbO hga).2⟩;have hk' : y ∉ e'.U.map (·.1) := by
                   rw [hWU] at hk;simp only [zcx, List.map_cons, List.mem_cons, not_or] at hk;exact hk.2
                  rw [hr, hob y (by omega), zbK e'.U y hk'];simp only [stW, zax];exact hy
       have henv2 : ∀ x d', getK (stW ops T W s M fun j => listed.getD j false || j == i).env x = some d' →
                (D.le ρ (((stW ops T W s M fun j => listed.getD j false).effS e' o.dst).at x) d' /\ d'.under M = true) /\ x < s.n := fun x d' hx => by
               simp only [stW] at hx;by_cases hdx : o.dst = some x
               ·rw [henv x hdx] at hx;cases hx;have hlt : x < s.n := by rw [hdx] at hpo; exact hpo
                cases hn : e'.nw with
                | none =>
                 rw [hn] at hcase;rw [hcase.1] at hdx;cases hdx
                | some nb =>
                 rw [hn] at hcase;obtain ⟨x0, hcx, hWU, hTi⟩ := hcase;have hx0 := hcr i x0 hcx;have hρ : ρ x0 = M := by simp only [ρ]; rw [if_pos hcx]
                 refine ⟨⟨.inr (.inl ?_), ?_⟩, hlt⟩
                 ·rw [hTi];simp only [St.effS, hn, hdx, St.put, St.at, zaa, if_true, Option.getD_some];cases e'.how <;> simp [mkD, D.ren, hρ, stW]
                 ·rw [hTi];cases e'.how <;> simp [mkD, D.under, hx0.2]
               ·rw [henv' x hdx] at hx;obtain ⟨g1, g2⟩ := hs.env x d' hx;have hgd := g2.good hknown;have hat : ((stW ops T W s M fun j => listed.getD j false).effS e' o.dst).at x = d' := by
                 have : ∀ (q : St) (d : D), getK (q.put o.dst d).env x = getK q.env x := fun q d => by
                  cases hd : o.dst with
                  | none => rfl
                  | some y =>
                   have hne : ¬ x = y := fun e => hdx (by rw [hd, e]);simp only [St.put, zaa, if_neg hne]
                 simp only [St.at, St.effS];cases hn : e'.nw with
                 | none => simp only [stW, hx]; rfl
                 | some nb => simp only [this, stW, hx]; rfl
                rw [hat];exact ⟨⟨.inr (.inl hgd.1.symm), hgd.2⟩, g1⟩
       refine ⟨?_, fun x d' hx => (henv2 x d' hx).1, fun x d' hx => ?_, hobs2, fun y1 y2 o1 o2 g1 g2 hr => hinj y1 y2 (hobs2 y1 o1 g1).1 (hobs2 y2 o2 g2).1 hr, fun j hj => ?_⟩
       ·have : ∀ (q : St) (d : D), (q.put o.dst d).n = q.n := fun q d => by cases o.dst <;> rfl
        simp only [St.effS];cases e'.nw <;> simp only [this] <;> rfl
       ·have : ∀ (q : St) (d : D), (q.put o.dst d).n = q.n := fun q d => by cases o.dst <;> rfl
        have e2 : ((stW ops T W s M fun j => listed.getD j false).effS e' o.dst).n = s.n := by
         simp only [St.effS];cases e'.nw <;> simp only [this] <;> rfl
        rw [e2];exact (henv2 x d' hx).2
       ·have c1 : cr i ≠ some j := fun e => by have := (hcr i j e).1; omega
        have c2 : ¬ un j := fun ⟨q, _, _, hc⟩ => by have := (hcr q j hc).1; omega
        refine ⟨by simp only [ρ]; rw [if_neg c1, if_neg c2], ?_⟩;show j < M;omega
      obtain ⟨g1, g2⟩ := Sim.weak h1 h2 hle;refine go _ a' w' g1 g2 fun j x hj hu hc => ?_;simp only [Kr.ren];split
      ·have c1 : cr i ≠ some x := fun e => by
               have := hcr1 i j x e hc;subst this;simp at hu
       have c2 : un x := ⟨j, hj, hu, hc⟩;simp only [ρ];rw [if_neg c1, if_pos c2];refine h2.hdr _ ?_;have : ∀ (q : St) (d : D), (q.put o.dst d).next = q.next := fun q d => by cases o.dst <;> rfl
       simp only [St.effS];cases e'.nw <;> simp only [this, stW] <;> omega
      ·rfl
     rcases hv with (⟨hv, hW, hcn, hR⟩ | ⟨e, he, hR, hcase⟩) | ⟨⟨fop, args, f, caps, O, O', L, hco, hcf, hcb, hR, hW, hkeys, hsm, hO, hnd, ⟨hdu, hOu⟩, hret⟩, hcn⟩ | ⟨fop, args, f, caps, O, e, nb, x0, hco, hcf, hcb, hR, ⟨heU, heN, hnu⟩, hcx, hO, hret⟩
     ·replace hv := zfN (s := stW ops T W s M fun j => decide (j < i)) (s' := stW ops T W s M fun j => listed.getD j false) (by rw [<- hR]; exact hloc) hopd hv
      exact .inl (zfM hv hin hs fun K' v w' h1 h2 h3 h4 h5 => next hW K' v w' h1 h2 h3 h4 h5)
     ·
      replace he := zdg (s := stW ops T W s M fun j => decide (j < i)) (s' := stW ops T W s M fun j => listed.getD j false) (by rw [<- hR]; exact hloc) hopd he
      have hgood := zjn (g := Good ρ M) (fun _ => ⟨by simp [D.ren], by simp [D.under]⟩) (fun cs h => h.agg) he (fun x hx => (zaM hs x).good hknown) (fun y ob hy => (hobs y ob hy).2);obtain ⟨e', he', ⟨rfl, hgU, hgN⟩⟩ := Lin.effD.2 _ hgood
      have he2 : effD P (stW ops T W s M fun j => listed.getD j false) o.op fun e => zaI o.dst (stW ops T W s M fun j => listed.getD j false) ∧ (e.nw = none → o.dst = none) ∧
               ((stW ops T W s M fun j => listed.getD j false).effS e o.dst) = (stW ops T W s M fun j => listed.getD j false).effS e' o.dst :=
       Lin.effD.1 _ _ (fun e hee => by
               subst hee;refine ⟨hpo, fun hn => ?_, rfl⟩;rw [hn] at hcase;exact hcase.1) he
      refine .inl (zel (k := fun s' => s' = (stW ops T W s M fun j => listed.getD j false).effS e' o.dst) (zgw he2) K a w hin hs _ _ (fun K' a' w' s' h1 h2 h3 => ?_) fun ch K' a' w' s' h1 h2 h3 => .inl ⟨K', s', h1, h2, h3⟩);have h3' : s' = _ := h3;subst h3';exact mk e' hgU hgN hcase K' a' w' h1 h2
     ·
      let un : Nat -> Prop := fun y => ∃ j, j < ops.length /\ (listed.getD j false || j == i) = false /\ cr j = some y
      let ρ : Nat -> Nat := fun y => open Classical in if un y then M + 1 + y else y
      have hρs : ∀ y, y < s.next -> ρ y = y := fun y hy => by
       have : ¬ un y := fun ⟨j, _, _, hc⟩ => by have := (hcr j y hc).1; omega
       simp only [ρ]; rw [if_neg this]
      have hknown : ∀ y h, K.hdr y = some h -> ρ y = y /\ y < M := fun y h hy => by
       have h2 : ¬ un y := fun ⟨j, hj, hu, hc⟩ => by
               simp only [Bool.or_eq_false_iff] at hu;rw [hfr j y hj hu.1 hc] at hy;cases hy
       refine ⟨by simp only [ρ]; rw [if_neg h2], ?_⟩;rcases Nat.lt_or_ge y M with h | h
       ·exact h
       ·rw [hs.hdr y h] at hy; cases hy
      have hobs : ∀ y ob, getK (stW ops T W s M fun j => listed.getD j false).obs y = some ob -> (ρ y = y /\ y < M) /\ ob.all (Good ρ M) := fun y ob hy => by
       have hok := hs.sat.ob y ob hy;obtain ⟨h, h1, _⟩ := hok;exact ⟨hknown y h h1, (hs.sat.ob y ob hy).good hknown⟩
      have hOact : ∀ p ∈ O, getK (stW ops T W s M fun j => listed.getD j false).obs p.1 = some p.2 := fun p hp => by
       rw [<- hloc p.1 (by rw [hR]; exact List.mem_map.2 ⟨p, hp, rfl⟩)];exact hO p hp
      have hOget : ∀ y ob, getK O y = some ob -> getK (stW ops T W s M fun j => listed.getD j false).obs y = some ob := fun y ob h => hOact _ (ze3 h)
      let F := (stW ops T W s M fun j => listed.getD j false).obs.filter fun p => !(O.map (·.1)).contains p.1
      have hFg : ∀ y, getK F y = if (O.map (·.1)).contains y = true then none else getK (stW ops T W s M fun j => listed.getD j false).obs y := fun y => zcH _ _ y;have hOn : ∀ y, ¬ (O.map (·.1)).contains y = true -> getK O y = none := fun y h => zbK O y (by simpa using h);have heq : ∀ y, getK (stW ops T W s M fun j => listed.getD j false).obs y = getK (F ++ O) y := fun y => by
       rw [zab, hFg];by_cases hy : (O.map (·.1)).contains y = true
       ·rw [if_pos hy];obtain ⟨x, hx⟩ := zc2 (l := O) (y := y) (by simpa using hy);rw [hx, hOget y x hx]
       ·rw [if_neg hy, hOn y hy];cases getK (stW ops T W s M fun j => listed.getD j false).obs y <;> rfl
      have hF : ∀ y ob, getK F y = some ob -> getK O y = none := fun y ob h => by
       rw [hFg] at h;by_cases hy : (O.map (·.1)).contains y = true
       ·rw [if_pos hy] at h; cases h
       ·exact hOn y hy
      have hopdS : ∀ x, x ∈ fop :: args -> opd (stW ops T W s M fun j => listed.getD j false) x = opd (stW ops T W s M fun j => decide (j < i)) x := fun x hx => (hopd x (by
       rcases o with ⟨odst, oop, ot, opos, oaf, og⟩
       unfold zb0 at hco;split at hco
       ·rename_i c hop;simp only at hop;subst hop;split at hco
        ·cases hco;rename_i f' hcal;simp only [Op.operands, Call.operands, hcal];simp only [List.mem_cons] at hx;simp;rcases hx with rfl | hx
         ·exact .inl rfl
         ·exact .inr (by simpa using hx)
        ·cases hco
       ·cases hco)).symm
      have hcall : CallP P Γ fop args o.dst (stW ops T W s M fun j => listed.getD j false) fun s' => ∃ o1, (∀ y, getK o1 y = getK O' y) /\ s' = (({ (stW ops T W s M fun j => listed.getD j false) with obs := F ++ o1, next := M } : St).put o.dst (T i)) :=
       CallP.xF F O (hret M (Nat.le_refl _)) heq hF (by rw [hopdS fop (by simp)]; exact hcf) hcb (by rw [List.map_congr_left fun x hx => hopdS x (by simp [hx])]) hpo
               (fun d o1 nx' _ ⟨h1, h2, h3⟩ => ⟨o1, h2, by cases h1; rw [h3]⟩) (fun ch o1 nx' _ ⟨h1, _⟩ => by cases h1)
      have heff : EffP P Γ o (stW ops T W s M fun j => listed.getD j false) fun s' => ∃ o1, (∀ y, getK o1 y = getK O' y) /\ s' = (({ (stW ops T W s M fun j => listed.getD j false) with obs := F ++ o1, next := M } : St).put o.dst (T i)) := by
       have e := hcall;rcases o with ⟨odst, oop, ot, opos, oaf, og⟩
       unfold zb0 at hco;split at hco
       ·rename_i c hop;simp only at hop;subst hop;split at hco
        ·cases hco;rename_i f' hcal;obtain ⟨cal, cargs, cts⟩ := c;simp only at hcal;subst hcal;exact EffP.guard (e cts ot opos oaf)
        ·cases hco
       ·cases hco
      refine .inl (heff K a w hin hs _ _ (fun K' a' w' s' h1 h2 h3 => ?_) fun ch K' a' w' s' h1 h2 h3 => .inl ⟨K', s', h1, h2, h3⟩);obtain ⟨o1, ho1, rfl⟩ := h3;have hWi : ∀ y, y ∈ zcx (W i) -> getK (zdI W (fun j => listed.getD j false || j == i) ops.length) y = getK (W i) y := fun y hy =>
       zfK W _ i y hy ops.length hil fun j hj hlt hk => hlast y hy j hj hlt hk
      have hWn : ∀ y, y ∉ zcx (W i) -> getK (zdI W (fun j => listed.getD j false || j == i) ops.length) y = getK (zdI W (fun j => listed.getD j false) ops.length) y := fun y hy =>
       zbv W _ _ y ops.length fun j hj hk => by
               by_cases hji : j = i
               ·subst hji; exact absurd hk hy
               ·simp [hji]
      have hWg : ∀ y, getK (W i) y = if L.contains y = true then (getK O' y).map some else none := fun y => by
       rw [hW, zji, zkj];split <;> rfl
      have hkW : ∀ y, y ∈ zcx (W i) ↔ L.contains y = true /\ y ∈ O.map (·.1) := fun y => by
       rw [hW, <- hkeys];simp only [zcx, List.map_map, List.mem_map, List.mem_filter, Function.comp];exact ⟨fun ⟨p, ⟨h1, h2⟩, h3⟩ => ⟨h3 ▸ h2, p, h1, h3⟩, fun ⟨h1, p, h2, h3⟩ => ⟨p, ⟨h2, by rw [h3]; exact h1⟩, h3⟩⟩
      have pobs : ∀ (q : St) (d : D), (q.put o.dst d).obs = q.obs := fun q d => by cases o.dst <;> rfl
      have pn : ∀ (q : St) (d : D), (q.put o.dst d).n = q.n := fun q d => by cases o.dst <;> rfl
      have pnext : ∀ (q : St) (d : D), (q.put o.dst d).next = q.next := fun q d => by cases o.dst <;> rfl
      have hobs2 : ∀ y ob', getK (stW ops T W s M fun j => listed.getD j false || j == i).obs y = some ob' → y < M ∧
               ∃ ob, getK (({ (stW ops T W s M fun j => listed.getD j false) with obs := F ++ o1, next := M } : St).put o.dst (T i)).obs (ρ y) = some ob /\ Ob.le ρ ob ob' /\ ob'.under M = true := fun y ob' hy => by
       rw [pobs];simp only [stW, zax] at hy;by_cases hk : y ∈ zcx (W i)
       ·rw [hWi y hk, hWg, if_pos ((hkW y).1 hk).1] at hy;have hyO : y ∈ O.map (·.1) := ((hkW y).1 hk).2;obtain ⟨x0, hx0⟩ := zc2 (l := O) (y := y) hyO;obtain ⟨⟨hr, hlt⟩, _⟩ := hobs y x0 (hOget y x0 hx0);cases hq : getK O' y with
        | none =>
         obtain ⟨x1, hx1⟩ := zc2 (l := O') (y := y) (by rw [hkeys]; exact hyO);rw [hx1] at hq;cases hq
        | some ob =>
         rw [hq] at hy;have hy : ob = ob' := by simpa using hy
         subst hy;have hga := zfV (M := M) hρs hM (hOu _ (ze3 hq));refine ⟨hlt, ob, ?_, (Ob.zbO hga).1, (Ob.zbO hga).2⟩;rw [hr, zab, hFg, if_pos (by simpa using hyO), ho1 y, hq]
       ·rw [hWn y hk] at hy;obtain ⟨⟨hr, hlt⟩, hga⟩ := hobs y ob' (by simp only [stW, zax]; exact hy);refine ⟨hlt, ob', ?_, (Ob.zbO hga).1, (Ob.zbO hga).2⟩;by_cases hyO : (O.map (·.1)).contains y = true
        ·have hL : L.contains y = false := by
          cases hL : L.contains y with
          | false => rfl
          | true => exact absurd ((hkW y).2 ⟨hL, by simpa using hyO⟩) hk
         obtain ⟨x0, hx0⟩ := zc2 (l := O) (y := y) (by simpa using hyO);have hx1 := hOget y x0 hx0;simp only [stW, zax] at hx1;rw [hy] at hx1;rw [hr, zab, hFg, if_pos hyO, ho1 y, hsm y hL, hx0];exact hx1.symm
        ·rw [hr, zab, hFg, if_neg hyO];simp only [stW, zax];rw [hy]
      have henv2 : ∀ x d', getK (stW ops T W s M fun j => listed.getD j false || j == i).env x = some d' →
               (D.le ρ ((({ (stW ops T W s M fun j => listed.getD j false) with obs := F ++ o1, next := M } : St).put o.dst (T i)).at x) d' /\ d'.under M = true) /\ x < s.n := fun x d' hx => by
       simp only [stW] at hx;by_cases hdx : o.dst = some x
       ·rw [henv x hdx] at hx;cases hx;have hlt : x < s.n := by rw [hdx] at hpo; exact hpo
        have hg := zc5 (M := M) hρs hM hdu;refine ⟨⟨.inr (.inl ?_), hg.2⟩, hlt⟩;simp only [hdx, St.put, St.at, zaa, if_true, Option.getD_some];exact hg.1.symm
       ·rw [henv' x hdx] at hx;obtain ⟨g1, g2⟩ := hs.env x d' hx;have hgd := g2.good hknown;have hat : (({ (stW ops T W s M fun j => listed.getD j false) with obs := F ++ o1, next := M } : St).put o.dst (T i)).at x = d' := by
         have : ∀ (q : St) (d : D), getK (q.put o.dst d).env x = getK q.env x := fun q d => by
          cases hd : o.dst with
          | none => rfl
          | some y =>
           have hne : ¬ x = y := fun e => hdx (by rw [hd, e]);simp only [St.put, zaa, if_neg hne]
         simp only [St.at, this, stW, hx]
         try rfl
        rw [hat];exact ⟨⟨.inr (.inl hgd.1.symm), hgd.2⟩, g1⟩
      have hinj : ∀ y1 y2, y1 < M -> y2 < M -> ρ y1 = ρ y2 -> y1 = y2 := fun y1 y2 g1 g2 hr => by
       simp only [ρ] at hr;split at hr <;> split at hr <;> omega
      have hle : St.Le Γ.n0 ρ (({ (stW ops T W s M fun j => listed.getD j false) with obs := F ++ o1, next := M } : St).put o.dst (T i)) (stW ops T W s M fun j => listed.getD j false || j == i) := by
       refine ⟨by rw [pn]; rfl, fun x d' hx => (henv2 x d' hx).1, fun x d' hx => by rw [pn]; exact (henv2 x d' hx).2, hobs2, fun y1 y2 o1 o2 g1 g2 hr => hinj y1 y2 (hobs2 y1 o1 g1).1 (hobs2 y2 o2 g2).1 hr, fun j hj => ⟨hρs j (by omega), ?_⟩⟩;show j < M;omega
      obtain ⟨g1, g2⟩ := Sim.weak h1 h2 hle;refine go _ a' w' g1 g2 fun j x hj hu hc => ?_;simp only [Kr.ren];split
      ·have c2 : un x := ⟨j, hj, hu, hc⟩;simp only [ρ];rw [if_pos c2];refine h2.hdr _ ?_;rw [pnext];show M <= M + 1 + x;omega
      ·rfl
     ·
      have hOact : ∀ p ∈ O, getK (stW ops T W s M fun j => listed.getD j false).obs p.1 = some p.2 := fun p hp => by
       rw [<- hloc p.1 (by rw [hR]; exact List.mem_map.2 ⟨p, hp, rfl⟩)];exact hO p hp
      have hOget : ∀ y ob, getK O y = some ob -> getK (stW ops T W s M fun j => listed.getD j false).obs y = some ob := fun y ob h => hOact _ (ze3 h)
      let F := (stW ops T W s M fun j => listed.getD j false).obs.filter fun p => !(O.map (·.1)).contains p.1
      have hFg : ∀ y, getK F y = if (O.map (·.1)).contains y = true then none else getK (stW ops T W s M fun j => listed.getD j false).obs y := fun y => zcH _ _ y;have hOn : ∀ y, ¬ (O.map (·.1)).contains y = true -> getK O y = none := fun y h => zbK O y (by simpa using h);have heq : ∀ y, getK (stW ops T W s M fun j => listed.getD j false).obs y = getK (F ++ O) y := fun y => by
       rw [zab, hFg];by_cases hy : (O.map (·.1)).contains y = true
       ·rw [if_pos hy];obtain ⟨x, hx⟩ := zc2 (l := O) (y := y) (by simpa using hy);rw [hx, hOget y x hx]
       ·rw [if_neg hy, hOn y hy];cases getK (stW ops T W s M fun j => listed.getD j false).obs y <;> rfl
      have hF : ∀ y ob, getK F y = some ob -> getK O y = none := fun y ob h => by
       rw [hFg] at h;by_cases hy : (O.map (·.1)).contains y = true
       ·rw [if_pos hy] at h; cases h
       ·exact hOn y hy
      have hopdS : ∀ x, x ∈ fop :: args -> opd (stW ops T W s M fun j => listed.getD j false) x = opd (stW ops T W s M fun j => decide (j < i)) x := fun x hx => (hopd x (by
       rcases o with ⟨odst, oop, ot, opos, oaf, og⟩
       unfold zb0 at hco;split at hco
       ·rename_i c hop;simp only at hop;subst hop;split at hco
        ·cases hco;rename_i f' hcal;simp only [Op.operands, Call.operands, hcal];simp only [List.mem_cons] at hx;simp;rcases hx with rfl | hx
         ·exact .inl rfl
         ·exact .inr (by simpa using hx)
        ·cases hco
       ·cases hco)).symm
      have hMn : getK (stW ops T W s M fun j => listed.getD j false).obs M = none := by
       cases hq : getK (stW ops T W s M fun j => listed.getD j false).obs M with
       | none => rfl
       | some ob =>
               obtain ⟨h, h1, _⟩ := hs.sat.ob M ob hq;rw [hs.hdr M (Nat.le_refl _)] at h1;cases h1
      have hcall : CallP P Γ fop args o.dst (stW ops T W s M fun j => listed.getD j false) fun s' => ∃ o1, (∀ y, getK o1 y = getK ((M, nb) :: O) y) /\ s' = (({ (stW ops T W s M fun j => listed.getD j false) with obs := F ++ o1, next := M + 1 } : St).put o.dst (mkD e.how M)) :=
       CallP.xF F O (hret M (by first | exact Nat.le_refl _ | exact hM)) heq hF (by rw [hopdS fop (by simp)]; exact hcf) hcb (by rw [List.map_congr_left fun x hx => hopdS x (by simp [hx])]) hpo
               (fun d o1 nx' _ ⟨h1, h2, h3⟩ => ⟨o1, h2, by cases h1; rw [h3]⟩) (fun ch o1 nx' _ ⟨h1, _⟩ => by cases h1)
      have heff : EffP P Γ o (stW ops T W s M fun j => listed.getD j false) fun s' => ∃ o1, (∀ y, getK o1 y = getK ((M, nb) :: O) y) /\ s' = (({ (stW ops T W s M fun j => listed.getD j false) with obs := F ++ o1, next := M + 1 } : St).put o.dst (mkD e.how M)) := by
       have e := hcall;rcases o with ⟨odst, oop, ot, opos, oaf, og⟩
       unfold zb0 at hco;split at hco
       ·rename_i c hop;simp only at hop;subst hop;split at hco
        ·cases hco;rename_i f' hcal;obtain ⟨cal, cargs, cts⟩ := c;simp only at hcal;subst hcal;exact EffP.guard (e cts ot opos oaf)
        ·cases hco
       ·cases hco
      refine .inl (heff K a w hin hs _ _ (fun K' a' w' s' h1 h2 h3 => ?_) fun ch K' a' w' s' h1 h2 h3 => .inl ⟨K', s', h1, h2, h3⟩);obtain ⟨o1, ho1, rfl⟩ := h3;refine mk e (by rw [heU]; simp) (fun ob h => by rw [heN] at h; cases h; exact zfV hρs0 hM hnu) (by rw [heN]; exact ⟨x0, hcx⟩) K' a' w' h1 (h2.eqo ?_);have pobs : ∀ (q : St) (d : D), (q.put o.dst d).obs = q.obs := fun q d => by cases o.dst <;> rfl
      have pn : ∀ (q : St) (d : D), (q.put o.dst d).n = q.n := fun q d => by cases o.dst <;> rfl
      have pnext : ∀ (q : St) (d : D), (q.put o.dst d).next = q.next := fun q d => by cases o.dst <;> rfl
      have penv : ∀ (q q' : St) (d : D) (x : Nat), q.env = q'.env -> getK (q.put o.dst d).env x = getK (q'.put o.dst d).env x := fun q q' d x e => by cases o.dst <;> simp [St.put, e]
      simp only [St.effS, heN];refine ⟨by rw [pn, pn], fun y => ?_, by rw [pnext, pnext]; rfl, fun x => penv _ _ _ x rfl⟩;rw [pobs, pobs];simp only [heU];rw [zab, ho1, zaa, zaa];show _ = if y = M then some nb else getK (zaY [] (stW ops T W s M fun j => listed.getD j false).obs) y;have hap : zaY [] (stW ops T W s M fun j => listed.getD j false).obs = (stW ops T W s M fun j => listed.getD j false).obs := rfl;rw [hap];by_cases hy : y = M
      ·subst hy;have hFM : getK F y = none := by rw [hFg, hMn]; split <;> rfl
       rw [hFM];simp
      ·rw [if_neg hy, if_neg hy, heq y, zab]
    ·rw [if_neg (by rw [hw]; simp)];exact next hv.2 K undef w hin (.refl _) rfl hs.sat (by rw [hv.1]; exact .u _ _ (.oth _))
 have h0 : (fun j => (Array.replicate ops.toArray.size false).getD j false) = fun _ => false := funext fun j => by
  by_cases hj : j < ops.length <;> simp [hj]
 refine key _ _ K a w0 (by simp) (by simp) (fun j y hj hS => ?_) hin0 ?_ (fun j x _ _ hc => hs.hdr x (hcr j x hc).1) (fun p _ _ => congrFun h0 p)
 ·have : (Array.replicate ops.toArray.size false).getD j false = false := congrFun h0 j;rw [this] at hS;cases hS
 ·rw [h0];have none : ∀ (l : List Oper) (i : Nat) (e : List (Nat × D)), zdj T (fun _ => false) l i e = e := by
   intro l
   induction l with
   | nil => intro i e; rfl
   | cons o l ih => intro i e; simp [zdj, ih]
  have wn : ∀ m, zdI W (fun _ => false) m = [] := by
   intro m
   induction m with
   | zero => rfl
   | succ m ih => simp [zdI, ih]
  refine ⟨hs0.sat.eqo fun y => ?_, hs0.defers, hs0.size, fun x d hx => hs0.env x d ?_, fun y hy => hs0.hdr y (Nat.le_trans hM hy)⟩
  ·simp only [stW, wn]; rfl
  ·simp only [stW, none] at hx; exact hx
abbrev zra := Ent × Nat
abbrev Fp4 := List (List Nat × List Nat × Nat)
def eE (E : Nat -> zra) (j : Nat) : Ent := (E j).1
def tF4 (E : Nat -> zra) (n : Nat) : Fp4 := (List.range n).map fun j => (tR (eE E) j, zcx (tW (eE E) j), (E j).2)
def zuq (P : Program) (N : Nat) (s : St) (o : O1) (e : Ent) : Prop :=
 match o.guard with
 | none => zr0 P N s o.op o.dst e.1 e.2.1 e.2.2.1 e.2.2.2
 | some (t, want) => (∃ b, getK s.env t = some (.u (.bool b)) /\ if b = want then zr0 P N s o.op o.dst e.1 e.2.1 e.2.2.1 e.2.2.2 else e.1 = .un /\ e.2.1 = [] /\ e.2.2.1 = none) \/
  (getK s.env t = some .un /\ e.1 = .un /\ e.2.1 = [] /\ e.2.2.1 = none)
def Op4 (P : Program) (Γ : Ctx) (N : Nat) (s : St) (o : O1) (e : zra) : Prop :=
 if e.2 = 2 then e.1.2.1 = [] /\ e.1.2.2.1 = none else if e.2 = 1 then o.guard = none /\ zrX P Γ s o.op /\ e.1.2.1 = [] /\ e.1.2.2.1 = none else e.2 = 0 /\ zuq P N s o e.1
def zkA (P : Program) (Γ : Ctx) (N : Nat) : List O1 -> St -> Fp4 -> (St -> Fp4 -> Prop) -> Prop
 | [], s, fp, k => k s fp
 | o :: rest, s, fp, k => ∃ e : zra, zaI o.dst s /\ Op4 P Γ N s o e /\ (∀ x, e.1.2.2.1 = some x -> x = s.next) /\ zkA P Γ N rest (s.app o.dst e.1) (fp ++ [(e.1.2.2.2, zcx e.1.2.1, e.2)]) k
def HD4 (P : Program) (Γ : Ctx) (N : Nat) (l : List O1) (s : St) (fp : Fp4) (C : Fp4 -> Prop) (k : St -> Prop) : Prop :=
 ∀ s0 : St, s0.Eqo s -> zkA P Γ N l s0 fp fun s1 fp => C fp /\ ((∀ p ∈ fp, p.2.2 ≠ 1) -> ∃ s', s1.Eqo s' /\ k s')
def znh (P : Program) (Γ : Ctx) (N : Nat) (o : O1) (rest : List O1) (s : St) (fp : Fp4) (C : Fp4 -> Prop) (k : St -> Prop) : Prop :=
 ∀ s0 : St, s0.Eqo s -> ∃ e : zra, zaI o.dst s0 /\ Op4 P Γ N s0 o e /\ e.2 ≠ 1 /\ (∀ x, e.1.2.2.1 = some x -> x = s0.next) /\ zkA P Γ N rest (s0.app o.dst e.1) (fp ++ [(e.1.2.2.2, zcx e.1.2.1, e.2)]) fun s1 fp => C fp /\ ((∀ p ∈ fp, p.2.2 ≠ 1) -> ∃ s', s1.Eqo s' /\ k s')
theorem HD4.of_h {P Γ N o rest s fp C k} (h : znh P Γ N o rest s fp C k) : HD4 P Γ N (o :: rest) s fp C k := fun s0 e => by
 obtain ⟨en, h1, h2, _, h3, h4⟩ := h s0 e;exact ⟨en, h1, h2, h3, h4⟩
theorem zcu {P Γ N s fp C k} (hC : C fp) (h : k s) : HD4 P Γ N [] s fp C k := fun s0 e => ⟨hC, fun _ => ⟨s, e, h⟩⟩
theorem zgc {P Γ N s fp C k} (hC : C fp) (h : (fp.any fun p => p.2.2 == 1) = true) : HD4 P Γ N [] s fp C k := fun s0 e => ⟨hC, fun h1 => by
 obtain ⟨p, hp, hk⟩ := List.any_eq_true.1 h;exact absurd (by simpa using hk) (h1 p hp)⟩
theorem zfs {P Γ N s dst op rest fp C k} (_ : zby op = false) (h : valD P s op fun d => zaI dst s /\ HD4 P Γ N rest (s.put dst d) (fp ++ [(zbq s op, [], 0)]) C k) : znh P Γ N ⟨dst, op, none⟩ rest s fp C k := fun s0 e => by
 obtain ⟨d, hv, hp, hr⟩ := Lin.valD.2 _ h;refine ⟨((d, [], none, zbq s op), 0), by cases dst <;> simp_all [zaI, e.1], ?_, by simp, fun x hx => (by cases hx), hr _ (e.put dst d)⟩;unfold Op4;rw [if_neg (by simp), if_neg (by simp)];exact ⟨rfl, .inl (.inl ⟨by rw [ziU e]; exact hv, rfl, rfl, (zdd e op).symm⟩)⟩
theorem zqI {P Γ N s dst op rest fp C k} (_ : zby op = true) (h : effD P s op fun e => zaI dst s /\ (e.nw = none -> dst = none) /\
  HD4 P Γ N rest (s.effS e dst) (fp ++ [(zbq s op, match e.nw with | none => (e.U.map (·.1), 0) | some _ => (s.next :: e.U.map (·.1), 0))]) C k) : znh P Γ N ⟨dst, op, none⟩ rest s fp C k := fun s0 e0 => by
 obtain ⟨e, hv, hp, hd, hr⟩ := Lin.effD.2 _ h;have hp0 : zaI dst s0 := by cases dst <;> simp_all [zaI, e0.1]
 have hv0 : effD P s0 op (· = e) := by rw [zjm e0]; exact hv
 cases hn : e.nw with
 | none =>
  obtain rfl := hd hn;refine ⟨((.any, e.U, none, zbq s op), 0), hp0, ?_, by simp, fun x hx => (by cases hx), ?_⟩
  ·unfold Op4;rw [if_neg (by simp), if_neg (by simp)];exact ⟨rfl, .inl (.inr ⟨e, hv0, (zdd e0 op).symm, by rw [hn]; exact ⟨rfl, rfl, rfl⟩⟩)⟩
  rw [hn] at hr;refine hr _ ?_;simp only [St.app, St.effS, hn, St.put];exact ⟨e0.1, fun x => by simp only [zax, e0.2.1 x], e0.2.2.1, e0.2.2.2⟩
 | some ob =>
  refine ⟨((mkD e.how s0.next, (s0.next, some ob) :: e.U, some s0.next, zbq s op), 0), hp0, ?_, by simp, fun x hx => (by cases hx; rfl), ?_⟩
  ·unfold Op4;rw [if_neg (by simp), if_neg (by simp)];exact ⟨rfl, .inl (.inr ⟨e, hv0, (zdd e0 op).symm, by rw [hn]; exact ⟨s0.next, rfl, rfl, rfl⟩⟩)⟩
  rw [hn] at hr;have h1 := hr (s0.app dst (mkD e.how s0.next, (s0.next, some ob) :: e.U, some s0.next, zbq s op)) (by
   simp only [St.app, St.effS, hn, e0.2.2.1];apply St.Eqo.put;refine ⟨e0.1, fun x => ?_, by simp, e0.2.2.2⟩;simp only [zaY, zam, zaa, zax, e0.2.1 x])
  simp only [zcx, List.map_cons];rw [e0.2.2.1] at h1 ⊢;exact h1
theorem zbW {P Γ N s dst op rest fp C k} (h0 : zby op = false) (h : valD P s op fun d => zaI dst s /\ HD4 P Γ N rest (s.put dst d) (fp ++ [(zbq s op, [], 0)]) C k) : HD4 P Γ N (⟨dst, op, none⟩ :: rest) s fp C k := .of_h (zfs h0 h)
theorem zdt {P Γ N s dst op rest fp C k} (h0 : zby op = true) (h : effD P s op fun e => zaI dst s /\ (e.nw = none -> dst = none) /\
  HD4 P Γ N rest (s.effS e dst) (fp ++ [(zbq s op, match e.nw with | none => (e.U.map (·.1), 0) | some _ => (s.next :: e.U.map (·.1), 0))]) C k) : HD4 P Γ N (⟨dst, op, none⟩ :: rest) s fp C k := .of_h (zqI h0 h)
theorem zes {P Γ N s dst op rest fp C k t want b} (hb : getK s.env t = some (.u (.bool b))) (hp : zaI dst s)
  (hy : b = want -> znh P Γ N ⟨dst, op, none⟩ rest (s.put (some t) (.u (.bool want))) fp C k)
  (hn : b = !want -> HD4 P Γ N rest ((s.put (some t) (.u (.bool (!want)))).put dst .un) (fp ++ [([], [], 0)]) C k) : HD4 P Γ N (⟨dst, op, some (t, want)⟩ :: rest) s fp C k := fun s0 e => by
 have lit : ∀ b', b = b' -> s.Eqo (s.put (some t) (.u (.bool b'))) := fun b' e' => ⟨rfl, fun _ => rfl, rfl, fun x => by
  subst e';simp only [St.put, zaa];split
  ·rename_i hx; rw [hx, hb]
  ·rfl⟩
 have hp0 : zaI dst s0 := by cases dst <;> simp_all [zaI, e.1]
 by_cases hw : b = want
 ·have e1 := e.trans (lit want hw);obtain ⟨en, h1, h2, h5, h3, h4⟩ := hy hw s0 e1;refine ⟨en, h1, ?_, h3, h4⟩;unfold Op4 at h2 ⊢;by_cases h6 : en.2 = 2
  ·rw [if_pos h6] at h2 ⊢;exact h2
  ·rw [if_neg h6, if_neg h5] at h2 ⊢;exact ⟨h2.1, .inl ⟨b, by rw [e.2.2.2 t]; exact hb, by rw [if_pos hw]; exact h2.2⟩⟩
 ·have hw' : b = !want := by cases b <;> cases want <;> simp_all
  have e1 := e.trans (lit _ hw');refine ⟨((.un, [], none, []), 0), hp0, ?_, fun x hx => (by cases hx), hn hw' _ (e1.put dst .un)⟩;unfold Op4;rw [if_neg (by simp), if_neg (by simp)];exact ⟨rfl, .inl ⟨b, by rw [e.2.2.2 t]; exact hb, by rw [if_neg hw]; exact ⟨rfl, rfl, rfl⟩⟩⟩
theorem zqK {P Γ N s dst op g rest fp C k} (hp : zaI dst s) (h : HD4 P Γ N rest (s.put dst .any) (fp ++ [([], [], 2)]) C k) : HD4 P Γ N (⟨dst, op, g⟩ :: rest) s fp C k := fun s0 e => by
 refine ⟨((.any, [], none, []), 2), by cases dst <;> simp_all [zaI, e.1], ?_, fun x hx => (by cases hx), h _ (e.put dst .any)⟩;unfold Op4;rw [if_pos rfl];exact ⟨rfl, rfl⟩
theorem zls (W : Wr) {o o' : List (Nat × Ob)} (h : ∀ y, getK o y = getK o' y) : ∀ y, getK (zaY W o) y = getK (zaY W o') y := fun y => by rw [zax, zax, h y]
theorem zpi {P : Program} {Γ : Ctx} {N : Nat} {s : St} {dst : Option Tmp} {rest fp C k} {fop : Operand} {args : Array Operand} {ts : Array TypeId} {f caps} {ds : List D} {d : D} (O O' : List (Nat × Ob)) (L : List Nat)
  (hret : ∀ nx, s.next <= nx -> RetX P f ds O nx fun r o n => r = .val d /\ (∀ y, getK o y = getK O' y) /\ n = nx)
  (hf : zaz (opd s fop) = some (f, caps)) (hc : zak P f = true) (hds : args.toList.map (opd s) ++ caps = ds) (hkeys : O'.map (·.1) = O.map (·.1)) (hsm : ∀ y, L.contains y = false -> getK O' y = getK O y) (hO : ∀ p ∈ O, getK s.obs p.1 = some p.2) (hnd : (O.map (·.1)).Nodup)
  (hu : d.under N = true /\ ∀ p ∈ O', p.2.under N = true) (hp : zaI dst s)
  (h : HD4 P Γ N rest (({ s with obs := zaY ((O'.filter fun p => L.contains p.1).map fun p => (p.1, some p.2)) s.obs } : St).put dst d) (fp ++ [(O.map (·.1), (O'.filter fun p => L.contains p.1).map (·.1), 0)]) C k) :
  HD4 P Γ N (⟨dst, .call { callee := .value fop, args, argTypes := ts }, none⟩ :: rest) s fp C k := fun s0 e => by
 refine ⟨((d, (O'.filter fun p => L.contains p.1).map (fun p => (p.1, some p.2)), none, O.map (·.1)), 0), by cases dst <;> simp_all [zaI, e.1], ?_, fun x hx => (by cases hx), ?_⟩
 ·unfold Op4;rw [if_neg (by simp), if_neg (by simp)];refine ⟨rfl, .inr (.inl ⟨⟨fop, args.toList, f, caps, O, O', L, rfl, by rw [zdQ e]; exact hf, hc, rfl, rfl, hkeys, hsm, fun p hp => by rw [e.2.1]; exact hO p hp, hnd, hu, fun nx hnx => ?_⟩, rfl⟩)⟩;have e1 : args.toList.map (opd s0) = args.toList.map (opd s) := List.map_congr_left fun x _ => zdQ e x;rw [e1, hds];exact hret nx (by rw [e.2.2.1] at hnx; exact hnx)
 ·have := h (s0.app dst (d, (O'.filter fun p => L.contains p.1).map (fun p => (p.1, some p.2)), none, O.map (·.1))) (by
   simp only [St.app];apply St.Eqo.put;exact ⟨e.1, zls _ e.2.1, by simpa using e.2.2.1, e.2.2.2⟩)
  simpa [zcx, List.map_map, Function.comp_def] using this
theorem zph {P : Program} {Γ : Ctx} {N : Nat} {s : St} {dst : Option Tmp} {rest fp C k} {fop : Operand} {args : Array Operand} {ts : Array TypeId} {f caps} {ds : List D} (O : List (Nat × Ob)) (r : ERes) (nb : Ob)
  (hret : ∀ nx, s.next <= nx -> RetX P f ds O nx fun q o n => q = .val (mkD r.how nx) /\ (∀ y, getK o y = getK ((nx, nb) :: O) y) /\ n = nx + 1) (hr : r.U = [] /\ r.nw = some nb)
  (hf : zaz (opd s fop) = some (f, caps)) (hc : zak P f = true) (hds : args.toList.map (opd s) ++ caps = ds) (hO : ∀ p ∈ O, getK s.obs p.1 = some p.2)
  (hu : nb.under N = true) (hp : zaI dst s)
  (h : HD4 P Γ N rest (({ s with obs := (s.next, nb) :: s.obs, next := s.next + 1 } : St).put dst (mkD r.how s.next)) (fp ++ [(O.map (·.1), [s.next], 0)]) C k) :
  HD4 P Γ N (⟨dst, .call { callee := .value fop, args, argTypes := ts }, none⟩ :: rest) s fp C k := fun s0 e => by
 refine ⟨((mkD r.how s0.next, (s0.next, some nb) :: r.U, some s0.next, O.map (·.1)), 0), by cases dst <;> simp_all [zaI, e.1], ?_, fun x hx => (by cases hx; rfl), ?_⟩
 ·unfold Op4;rw [if_neg (by simp), if_neg (by simp)];refine ⟨rfl, .inr (.inr ⟨fop, args.toList, f, caps, O, r, nb, s0.next, rfl, by rw [zdQ e]; exact hf, hc, rfl, ⟨hr.1, hr.2, hu⟩, ⟨rfl, rfl, rfl⟩, fun p hp => by rw [e.2.1]; exact hO p hp, fun nx hnx => ?_⟩)⟩;have e1 : args.toList.map (opd s0) = args.toList.map (opd s) := List.map_congr_left fun x _ => zdQ e x;rw [e1, hds];exact hret nx (by rw [e.2.2.1] at hnx; exact hnx)
 ·have h1 := h (s0.app dst (mkD r.how s0.next, (s0.next, some nb) :: r.U, some s0.next, O.map (·.1))) (by
   simp only [St.app, hr.1, e.2.2.1];apply St.Eqo.put;refine ⟨e.1, fun x => ?_, by simp, e.2.2.2⟩;simp only [zaY, zam, zaa, zax, e.2.1 x])
  simp only [hr.1] at h1;simp only [zcx, List.map_cons, hr.1, List.map_nil];rw [e.2.2.1] at h1 ⊢;exact h1
theorem zm4 {O O' : List (Nat × Ob)} (hkeys : O'.map (·.1) = O.map (·.1)) : (O'.filter fun p => (O.map (·.1)).contains p.1) = O' := by
 refine List.filter_eq_self.2 fun p hp => ?_;rw [<- hkeys];simp only [List.contains_eq_mem, decide_eq_true_eq];exact List.mem_map.2 ⟨p, hp, rfl⟩
theorem zqL {P : Program} {Γ : Ctx} {N : Nat} {s : St} {dst : Option Tmp} {rest fp C k} {fop : Operand} {args : Array Operand} {ts : Array TypeId} {f caps} {ds : List D} {d : D} (O O' : List (Nat × Ob))
  (hret : ∀ nx, s.next <= nx -> RetX P f ds O nx fun r o n => r = .val d /\ (∀ y, getK o y = getK O' y) /\ n = nx)
  (hf : zaz (opd s fop) = some (f, caps)) (hc : zak P f = true) (hds : args.toList.map (opd s) ++ caps = ds) (hkeys : O'.map (·.1) = O.map (·.1)) (hO : ∀ p ∈ O, getK s.obs p.1 = some p.2) (hnd : (O.map (·.1)).Nodup)
  (hu : d.under N = true /\ ∀ p ∈ O', p.2.under N = true) (hp : zaI dst s)
  (h : HD4 P Γ N rest (({ s with obs := zaY (O'.map fun p => (p.1, some p.2)) s.obs } : St).put dst d) (fp ++ [(O.map (·.1), O'.map (·.1), 0)]) C k) :
  HD4 P Γ N (⟨dst, .call { callee := .value fop, args, argTypes := ts }, none⟩ :: rest) s fp C k :=
 zpi O O' (O.map (·.1)) hret hf hc hds hkeys (fun y hy => by
  rw [zbK O y (by simpa using hy), zbK O' y (by rw [hkeys]; simpa using hy)]) hO hnd hu hp (by rw [zm4 hkeys]; exact h)
theorem zqJ {P : Program} {Γ : Ctx} {N : Nat} {s : St} {dst : Option Tmp} {rest fp C k} {fop : Operand} {args : Array Operand} {ts : Array TypeId} {f caps} {ds : List D} {post : Out -> List (Nat × Ob) -> Nat -> Prop} (O : List (Nat × Ob))
  (hret : ∀ nx, s.next <= nx -> RetX P f ds O nx post) (hno : ∀ d o n, ¬ post (.val d) o n)
  (hf : zaz (opd s fop) = some (f, caps)) (hc : zak P f = true) (hds : args.toList.map (opd s) ++ caps = ds) (hO : ∀ p ∈ O, getK s.obs p.1 = some p.2) (hp : zaI dst s)
  (hx : ∀ env ch o n, s.next <= n -> post (.pan ch) o n -> ∃ s2, Wk Γ { n := s.n, env := env, obs := (s.obs.filter fun p => !(O.map (·.1)).contains p.1) ++ o, next := n } s2 /\ Γ.pan ch s2)
  (h : HD4 P Γ N rest (s.put dst .any) (fp ++ [([], [], 1)]) C k) :
  HD4 P Γ N (⟨dst, .call { callee := .value fop, args, argTypes := ts }, none⟩ :: rest) s fp C k := fun s0 e => by
 refine ⟨((.any, [], none, []), 1), by cases dst <;> simp_all [zaI, e.1], ?_, fun x hx => (by cases hx), h _ (e.put dst .any)⟩;unfold Op4;rw [if_neg (by simp), if_pos rfl];refine ⟨rfl, fun s' hn ho hopd hnx o hop hg hpo => ?_, rfl, rfl⟩;obtain ⟨odst, oop, ot, opos, oaf, og⟩ := o;simp only at hop hg hpo;subst hop;subst hg;have hopS : ∀ x ∈ fop :: args.toList, opd s' x = opd s x := fun x hx => by
  rw [hopd x (by
   simp only [Op.operands, Call.operands];simp only [List.mem_cons] at hx;simp;rcases hx with rfl | hx
   ·exact .inl rfl
   ·exact .inr (by simpa using hx)), zdQ e]
 have hOget : ∀ y, getK s'.obs y = getK s.obs y := fun y => by rw [ho, e.2.1]
 have hcall : CallP P Γ fop args.toList odst s' fun _ => False :=
  CallP.xF (s'.obs.filter fun p => !(O.map (·.1)).contains p.1) O (hret s'.next (by rw [<- e.2.2.1]; exact hnx)) (fun y => by
   rw [zab, zcH];by_cases hy : (O.map (·.1)).contains y = true
   ·rw [if_pos hy];obtain ⟨x, hx⟩ := zc2 (l := O) (y := y) (by simpa using hy);rw [hx, hOget y, hO _ (ze3 hx)]
   ·rw [if_neg hy, zbK O y (by simpa using hy)];cases getK s'.obs y <;> rfl) (fun y ob hy => by
   rw [zcH] at hy;by_cases hc : (O.map (·.1)).contains y = true
   ·rw [if_pos hc] at hy; cases hy
   ·exact zbK O y (by simpa using hc)) (by rw [hopS fop (by simp)]; exact hf) hc (by rw [List.map_congr_left fun x hx => hopS x (by simp [hx])]; exact hds) hpo
   (fun d o1 nx' _ hp => absurd hp (hno d o1 nx')) (fun ch o1 nx' hn' hp => by
     obtain ⟨s2, h1, h2⟩ := hx s'.env ch o1 nx' (by have := e.2.2.1; omega) hp;refine ⟨s2, fun K a w hin hs => h1 K a w hin (hs.eqo ⟨by simp [hn, e.1], fun y => ?_, rfl, fun _ => rfl⟩), h2⟩;simp only [zab, zcH, hOget])
 exact hcall ts ot opos oaf
theorem zl4 {P : Program} {Γ : Ctx} {N : Nat} {all : Array Oper} {s0 : St} {ops : List Oper} {k : St -> Fp4 -> Prop} : ∀ (l : List O1) (tail : List Oper) (i : Nat) (E : Nat -> zra), zbm all tail = some l -> (∀ j, tail[j]? = ops[i + j]?) ->
  zkA P Γ N l (stE ops s0 (eE E) i) (tF4 E i) k -> ∃ E' : Nat -> zra, (∀ j, j < i -> E' j = E j) /\
   (∀ j o, i <= j -> ops[j]? = some o -> zaI o.dst s0 /\ (if (E' j).2 = 2 then tW (eE E') j = [] /\ tC (eE E') j = none else if (E' j).2 = 1 then o.guard = none /\ zrX P Γ (stE ops s0 (eE E') j) o.op /\ tW (eE E') j = [] /\ tC (eE E') j = none else
     (E' j).2 = 0 /\ zsT P N all (stE ops s0 (eE E') j) o (tT (eE E') j) (tW (eE E') j) (tC (eE E') j) (tR (eE E') j)) /\ ∀ x, tC (eE E') j = some x -> x = s0.next + cnt (eE E') j) /\
   k (stE ops s0 (eE E') (i + tail.length)) (tF4 E' (i + tail.length))
 | [], tail, i, E, hs, ht, h => by
  cases tail with
  | nil => exact ⟨E, fun _ _ => rfl, fun j o hj ho => by have := ht (j - i); rw [show i + (j - i) = j by omega, ho] at this; simp at this, by simpa [zkA] using h⟩
  | cons x l => simp only [zbm] at hs; split at hs <;> simp at hs
 | o1 :: l, tail, i, E, hs, ht, h => by
  obtain ⟨x, tl, rfl, hx, hr⟩ := zdM hs;obtain ⟨e, hp, hv, hnx, hc⟩ := h;have hxi : ops[i]? = some x := by have := ht 0; simpa using this.symm
  have hdst : o1.dst = x.dst /\ o1.op = x.op := by
   unfold zcS at hx;split at hx
   ·simp at hx; subst hx; exact ⟨rfl, rfl⟩
   ·split at hx
    ·simp at hx; subst hx; exact ⟨rfl, rfl⟩
    ·cases hx
  let E1 : Nat -> zra := fun j => if j = i then e else E j
  have h1 : ∀ j, j < i -> E j = E1 j := fun j hj => by simp only [E1]; rw [if_neg (by omega)]
  have h1' : ∀ j, j < i -> eE E j = eE E1 j := fun j hj => by simp only [eE, h1 j hj]
  have hi : E1 i = e := by simp [E1]
  have hi' : eE E1 i = e.1 := by simp only [eE, hi]
  have zcf : (stE ops s0 (eE E) i).app o1.dst e.1 = stE ops s0 (eE E1) (i + 1) := by
   rw [zec h1', hdst.1];simp only [stE, St.app];rw [ze5 (tT (eE E1)) i ops 0 s0.env x (Nat.zero_le _) (by simpa using hxi)];have hw : zdI (tW (eE E1)) (fun _ => true) (i + 1) = e.1.2.1 ++ zdI (tW (eE E1)) (fun _ => true) i := by
    rw [zdI, if_pos rfl, show tW (eE E1) i = e.1.2.1 by simp only [tW, hi']]
   have hcn : cnt (eE E1) (i + 1) = cnt (eE E1) i + if e.1.2.2.1.isSome then 1 else 0 := by
    rw [cnt, show tC (eE E1) i = e.1.2.2.1 by simp only [tC, hi']]
   rw [hw, zdh, hcn];have hT : tT (eE E1) i = e.1.1 := by simp only [tT, hi']
   cases x.dst with
   | none => simp only [St.put, nAA]
   | some y => simp only [St.put, hT, nAA]
  have hfp : tF4 E i ++ [(e.1.2.2.2, zcx e.1.2.1, e.2)] = tF4 E1 (i + 1) := by
   have hc1 : tF4 E i = tF4 E1 i := List.map_congr_left fun j hj => by
    have := h1 j (List.mem_range.1 hj);simp only [eE, tR, tW, this]
   rw [hc1];simp only [tF4, List.range_succ, List.map_append, List.map_cons, List.map_nil];rw [show tR (eE E1) i = e.1.2.2.2 by simp only [tR, hi'], show tW (eE E1) i = e.1.2.1 by simp only [tW, hi'], hi]
  rw [zcf, hfp] at hc;obtain ⟨E', g1, g2, g3⟩ := zl4 l tl (i + 1) E1 hr (fun j => by have := ht (j + 1); rw [show i + 1 + j = i + (j + 1) by omega, <- this]; simp) hc;refine ⟨E', fun j hj => by rw [g1 j (by omega), h1 j hj], fun j o hj ho => ?_, ?_⟩
  ·rcases Nat.lt_or_ge i j with h' | h'
   ·exact g2 j o h' ho
   ·obtain rfl : i = j := by omega
    rw [hxi] at ho;cases ho;have hEi : E' i = e := by rw [g1 i (by omega), hi]
    have hEi' : eE E' i = e.1 := by simp only [eE, hEi]
    have hst : stE ops s0 (eE E') i = stE ops s0 (eE E) i := zec fun j hj => by simp only [eE]; rw [g1 j (by omega), <- h1 j hj]
    refine ⟨by rw [hdst.1] at hp; exact hp, ?_, fun y hy => ?_⟩
    ·rw [hst];simp only [tT, tW, tC, tR, hEi, hEi'];unfold Op4 at hv;by_cases c2 : e.2 = 2
     ·rw [if_pos c2] at hv ⊢;exact hv
     ·rw [if_neg c2] at hv ⊢;by_cases c1 : e.2 = 1
      ·rw [if_pos c1] at hv ⊢;obtain ⟨v1, v2, v3⟩ := hv;refine ⟨?_, by rw [<- hdst.2]; exact v2, v3⟩;unfold zcS at hx;split at hx
       ·rename_i hg; exact hg
       ·split at hx
        ·simp at hx; subst hx; cases v1
        ·cases hx
      ·rw [if_neg c1] at hv ⊢;obtain ⟨v0, hv⟩ := hv;refine ⟨v0, ?_⟩;unfold zcS at hx;unfold zsT;unfold zuq at hv;split at hx
       ·rename_i hg;simp at hx;subst hx
        try rw [hg]
        exact hv
       ·rename_i q want hg;split at hx
        ·rename_i t ht';simp at hx;subst hx
         try rw [hg]
         exact ⟨t, ht', hv⟩
        ·cases hx
    ·have : tC (eE E') i = e.1.2.2.1 := by simp only [tC, hEi']
     rw [this] at hy;have := hnx y hy;rw [this, zfb (eE E') (eE E) i fun j hj => by simp only [eE]; rw [g1 j (by omega), <- h1 j hj]]
     try rfl
  ·rw [show i + (x :: tl).length = i + 1 + tl.length by simp; omega];exact g3
def zrn (ops : List Oper) (fp : Fp4) : Bool :=
 okP ops (fp.map fun p => (p.1, p.2.1)) &&
 (List.range ops.length).all fun j => ((fp.getD j ([], [], 0)).2.2 != 2 || (List.range ops.length).any fun p => (fp.getD p ([], [], 0)).2.2 == 1 && zdE ops ops.length p j) &&
   ((fp.getD j ([], [], 0)).2.2 != 1 || (List.range ops.length).all fun i => (fp.getD i ([], [], 0)).2.1.isEmpty || zdE ops ops.length i j || zdE ops ops.length j i)
theorem zqF {P Γ s} {R0 : Exit -> St -> Prop} {l : List Oper} (hord : zfx l = true) (hn0 : Γ.n0 <= s.next)
  (h : ∀ (C : Fp4 -> Prop) (k : St -> Prop), (∀ fp, zrn l fp = true -> C fp) -> (∀ s', R0 .normal s' -> k s') -> match zbm l.toArray l with | some l' => HD4 P Γ s.next l' s [] C k | none => False) :
  VA P Γ l s R0 := by
 have := h (fun fp => zrn l fp = true) _ (fun _ h => h) fun _ h => h;split at this
 ·rename_i l' hl;have h0 : stE l s (eE fun _ => default) 0 = s := by
   have hnone : ∀ (l : List Oper) (i : Nat) (e : List (Nat × D)), zdj (tT (eE fun _ => default)) (fun j => decide (j < 0)) l i e = e := by
    intro l
    induction l with
    | nil => intro i e; rfl
    | cons o l ih => intro i e; exact ih (i + 1) e
   simp only [stE, hnone]
   try rfl
  have hc := this s (.refl s);rw [<- h0] at hc;obtain ⟨E, _, h2, hok, hfin⟩ := zl4 l' l 0 (fun _ => default) hl (fun j => by rw [Nat.zero_add]) hc;rw [Nat.zero_add] at hok hfin;simp only [zrn, Bool.and_eq_true] at hok;obtain ⟨hok1, hok2⟩ := hok;have hlen4 : ∀ i, i < l.length -> (tF4 E l.length).getD i ([], [], 0) = (tR (eE E) i, zcx (tW (eE E) i), (E i).2) := fun i hi => by
   simp [tF4, hi]
  have hlen : ∀ i, i < l.length -> ((tF4 E l.length).map fun p => (p.1, p.2.1)).getD i ([], []) = (tR (eE E) i, zcx (tW (eE E) i)) := fun i hi => by
   simp [tF4, hi]
  have mono : ∀ i j, i <= j -> cnt (eE E) i <= cnt (eE E) j := fun i j hij => by
   induction hij with
   | refl => exact Nat.le_refl _
   | step _ ih => simp only [cnt]; omega
  have hcr : ∀ i x, i < l.length -> tC (eE E) i = some x -> x = s.next + cnt (eE E) i /\ cnt (eE E) (i + 1) = cnt (eE E) i + 1 := fun i x hi hx => by
   have := (h2 i _ (Nat.zero_le _) (List.getElem?_eq_getElem hi)).2.2 x hx;exact ⟨this, by simp only [cnt, hx]; rfl⟩
  let cr : Nat -> Option Nat := fun i => if i < l.length then tC (eE E) i else none
  let kd : Nat -> Nat := fun i => if i < l.length then (E i).2 else 0
  let W : Nat -> Wr := fun i => if i < l.length then tW (eE E) i else []
  have hWe : ∀ i, i < l.length -> W i = tW (eE E) i := fun i hi => by simp only [W]; rw [if_pos hi]
  refine zqG (T := tT (eE E)) (W := W) (cr := cr) (R := tR (eE E)) (kd := kd) (M := s.next + cnt (eE E) l.length) hord hn0 (by omega) (fun i x hx => ?_) (fun i j x hi hj => ?_) (fun i j hij hj hb => ?_) (fun i hk => ?_) (fun p i hp hi hw => ?_) (fun i o ho => ?_) (fun hnk => ?_)
  ·simp only [cr] at hx;split at hx
   ·rename_i hi;obtain ⟨e1, e2⟩ := hcr i x hi hx;have := mono (i + 1) l.length hi;omega
   ·cases hx
  ·simp only [cr] at hi hj;split at hi
   ·rename_i hil;split at hj
    ·rename_i hjl;obtain ⟨e1, e2⟩ := hcr i x hil hi;obtain ⟨e3, e4⟩ := hcr j x hjl hj;rcases Nat.lt_trichotomy i j with hlt | hlt | hlt
     ·have := mono (i + 1) j hlt;omega
     ·exact hlt
     ·have := mono (j + 1) i hlt;omega
    ·cases hj
   ·cases hi
  ·have := (List.all_eq_true.1 ((List.all_eq_true.1 hok1) j (List.mem_range.2 hj))) i (List.mem_range.2 hij);rw [hb, hlen i (by omega), hlen j hj] at this;simp only [Bool.false_or, Bool.and_eq_true] at this;rw [hWe i (by omega), hWe j hj];refine ⟨fun y hy => ?_, fun y hy => zeo this.2 y hy⟩;have := zeo this.1 y hy;rw [List.mem_append, not_or] at this;exact this
  ·simp only [kd] at hk;split at hk
   ·rename_i hi;obtain ⟨_, g2, _⟩ := h2 i _ (Nat.zero_le _) (List.getElem?_eq_getElem hi);have hci : cr i = tC (eE E) i := by simp only [cr]; rw [if_pos hi]
    rw [hWe i hi, hci];by_cases c2 : (E i).2 = 2
    ·rw [if_pos c2] at g2; exact g2
    ·rw [if_neg c2] at g2;by_cases c1 : (E i).2 = 1
     ·rw [if_pos c1] at g2; exact g2.2.2
     ·rw [if_neg c1] at g2; exact absurd g2.1 hk
   ·exact absurd rfl hk
  ·simp only [kd] at hp;split at hp
   ·rename_i hpl;have := (List.all_eq_true.1 hok2) p (List.mem_range.2 hpl);rw [Bool.and_eq_true, hlen4 p hpl] at this;have h3 := this.2;simp only [hp] at h3;have h4 : ((List.range l.length).all fun i => ((tF4 E l.length).getD i ([], [], 0)).2.1.isEmpty || zdE l l.length i p || zdE l l.length p i) = true := by simpa using h3
    have h5 := (List.all_eq_true.1 h4) i (List.mem_range.2 hi);rw [hlen4 i hi] at h5;simp only [Bool.or_eq_true] at h5;rcases h5 with (h5 | h5) | h5
    ·exfalso;apply hw;rw [hWe i hi];have : zcx (tW (eE E) i) = [] := by simpa using h5
     simpa [zcx] using this
    ·exact .inl h5
    ·exact .inr h5
   ·cases hp
  ·have hi := (lGE.1 ho).1;obtain ⟨g1, g2, g3⟩ := h2 i o (Nat.zero_le _) ho;refine ⟨g1, ?_⟩;have hwl : ∀ S m, m <= l.length -> zdI W S m = zdI (tW (eE E)) S m := fun S m hm => zeu W (tW (eE E)) S m fun j hj => hWe j (by omega);have hst : stW l (tT (eE E)) W s (s.next + cnt (eE E) l.length) (fun j => decide (j < i)) = { stE l s (eE E) i with next := s.next + cnt (eE E) l.length } := by
    simp only [stW, stE];rw [hwl _ _ (Nat.le_refl _), zfJ (tW (eE E)) i l.length (by omega)]
   have hcri : cr i = tC (eE E) i := by simp only [cr]; rw [if_pos hi]
   have hkdi : kd i = (E i).2 := by simp only [kd]; rw [if_pos hi]
   rw [hst, hcri, hkdi, hWe i hi];have opo : ∀ x, opd { stE l s (eE E) i with next := s.next + cnt (eE E) l.length } x = opd (stE l s (eE E) i) x := fun x => by cases x <;> rfl
   have eqo : ∀ (op : Op) (r : D -> Prop), valD P { stE l s (eE E) i with next := s.next + cnt (eE E) l.length } op r = valD P (stE l s (eE E) i) op r := fun op r => zdl rfl fun x _ => by cases x <;> rfl
   have ero : ∀ (op : Op), zbq { stE l s (eE E) i with next := s.next + cnt (eE E) l.length } op = zbq (stE l s (eE E) i) op := fun op => by
    have e : opd { stE l s (eE E) i with next := s.next + cnt (eE E) l.length } = opd (stE l s (eE E) i) := funext fun x => by cases x <;> rfl
    unfold zbq zbG zcb;rw [e]
   have efo : ∀ (op : Op) (r : ERes -> Prop), effD P { stE l s (eE E) i with next := s.next + cnt (eE E) l.length } op r = effD P (stE l s (eE E) i) op r := fun op r =>
    propext ⟨zdg (fun _ _ => rfl) fun x _ => by cases x <;> rfl, zdg (fun _ _ => rfl) fun x _ => by cases x <;> rfl⟩
   have hle : (stE l s (eE E) i).next <= s.next + cnt (eE E) l.length := by
    have := mono i l.length (by omega);simp only [stE]; omega
   have cao : ∀ (op : Op) (d : D) (W : Wr) (R : List Nat), zsc P s.next (stE l s (eE E) i) op d W R -> zsc P s.next { stE l s (eE E) i with next := s.next + cnt (eE E) l.length } op d W R :=
    fun op d W R ⟨fop, args, f, caps, O, O', L, q1, q2, q3, q4, q5, q6, q6b, q7, q8, q9, q10⟩ => ⟨fop, args, f, caps, O, O', L, q1, by rw [opo]; exact q2, q3, q4, q5, q6, q6b, q7, q8, q9, fun nx hnx => by
     rw [List.map_congr_left fun x _ => opo x];exact q10 nx (Nat.le_trans hle hnx)⟩
   have c1x : ∀ (op : Op) (dst : Option Tmp) (d : D) (W : Wr) (cr : Option Nat) (R : List Nat), zr0 P s.next (stE l s (eE E) i) op dst d W cr R -> zr0 P s.next { stE l s (eE E) i with next := s.next + cnt (eE E) l.length } op dst d W cr R :=
    fun op dst d W cr R h => by
     rcases h with h | ⟨h, hc⟩ | ⟨fop, args, f, caps, O, e, nb, x0, q1, q2, q3, q4, q5, q6, q7, q8⟩
     ·left;unfold Op1 at h ⊢;simp only [eqo, ero, efo];exact h
     ·exact .inr (.inl ⟨cao _ _ _ _ h, hc⟩)
     ·exact .inr (.inr ⟨fop, args, f, caps, O, e, nb, x0, q1, by rw [opo]; exact q2, q3, q4, q5, q6, q7, fun nx hnx => by
       rw [List.map_congr_left fun x _ => opo x];exact q8 nx (Nat.le_trans hle hnx)⟩)
   by_cases k2 : (E i).2 = 2
   ·rw [if_pos k2];have := (List.all_eq_true.1 hok2) i (List.mem_range.2 hi);rw [Bool.and_eq_true, hlen4 i hi] at this;have h3 := this.1;simp only [k2] at h3;have h4 : ((List.range l.length).any fun p => ((tF4 E l.length).getD p ([], [], 0)).2.2 == 1 && zdE l l.length p i) = true := by simpa using h3
    obtain ⟨p, hp, h5⟩ := List.any_eq_true.1 h4;have hpl := List.mem_range.1 hp;rw [hlen4 p hpl, Bool.and_eq_true] at h5;exact ⟨p, by simp only [kd]; rw [if_pos hpl]; simpa using h5.1, hpl, h5.2⟩
   ·rw [if_neg k2] at g2 ⊢;by_cases k1 : (E i).2 = 1
    ·rw [if_pos k1] at g2 ⊢;refine ⟨g2.1, fun s' a1 a2 a3 a4 => g2.2.1 s' a1 a2 (fun x hx => by rw [a3 x hx, opo]) (Nat.le_trans hle a4)⟩
    ·rw [if_neg k1] at g2 ⊢;obtain ⟨_, g2⟩ := g2;unfold zsT at g2 ⊢;split
     ·rename_i hg; rw [hg] at g2; exact c1x _ _ _ _ _ _ g2
     ·rename_i j want hg;rw [hg] at g2;obtain ⟨t, ht, g2⟩ := g2;refine ⟨t, ht, ?_⟩;rcases g2 with ⟨b, hb, g2⟩ | g2
      ·refine .inl ⟨b, hb, ?_⟩;split
       ·rename_i hbw; rw [if_pos hbw] at g2; exact c1x _ _ _ _ _ _ g2
       ·rename_i hbw; rw [if_neg hbw] at g2; exact g2
      ·exact .inr g2
  ·obtain ⟨s', h3, h4⟩ := hfin fun p hp => by
    obtain ⟨i, hi, rfl⟩ := List.mem_map.1 hp;have hil := List.mem_range.1 hi;have := hnk i hil;simp only [kd] at this;rw [if_pos hil] at this;exact this
   refine ⟨s', St.Eqo.trans (b := stE l s (eE E) l.length) ⟨rfl, fun x => ?_, rfl, fun x => ?_⟩ h3, h4⟩
   ·simp only [stW, stE];rw [zeu W (tW (eE E)) (fun _ => true) l.length fun j hj => hWe j hj]
   ·simp only [stW, stE];exact zbp (tT (eE E)) _ _ x l 0 s.env s.env rfl fun j o hj _ => by
     have := (lGE.1 hj).1;simp [this]
 ·exact this.elim
theorem zbV {P Γ s} {Q : Exit -> St -> Prop} {kt : Kt} {id : Nat} {l : List Oper} (hm : P.follows .mixedOrders = true) (hord : zfx l = true) (hn0 : Γ.n0 <= s.next)
  (h : ∀ (C : Fp4 -> Prop) (k : St -> Prop), (∀ fp, zrn l fp = true -> C fp) -> (∀ s', zan P Γ Q kt .normal s' -> k s') -> match zbm l.toArray l with | some l' => HD4 P Γ s.next l' s [] C k | none => False) :
  V P Γ (.region id l.toArray true) s (zan P Γ Q kt) := fun K a w hin hs => by
 refine wp_region_any hm ?_;exact zqF (R0 := zan P Γ Q kt) hord hn0 h K a w hin hs
end Go.VL
namespace Go.VL
open Go
def zjP (ids : List Nat) (nx k : Nat) : Nat := match ids[k]? with | some x => x | none => nx + (k - ids.length)
theorem zpy {ids : List Nat} {nx : Nat} (hd : ids.Nodup) (hlt : ∀ x ∈ ids, x < nx) {a b : Nat} (h : zjP ids nx a = zjP ids nx b) : a = b := by
 unfold zjP at h;rcases ha : ids[a]? with _ | x <;> rcases hb : ids[b]? with _ | y <;> rw [ha, hb] at h <;> simp only at h
 ·have := List.getElem?_eq_none_iff.1 ha;have := List.getElem?_eq_none_iff.1 hb;omega
 ·have := hlt y (List.mem_of_getElem? hb);omega
 ·have := hlt x (List.mem_of_getElem? ha);omega
 ·obtain ⟨h1, h2⟩ := lGE.1 ha;obtain ⟨h3, h4⟩ := lGE.1 hb;rw [List.nodup_iff_pairwise_ne, List.pairwise_iff_getElem] at hd;rcases Nat.lt_trichotomy a b with hlt' | hlt' | hlt'
  ·exact absurd (h2.trans (h.trans h4.symm)) (hd a b h1 h3 hlt')
  ·exact hlt'
  ·exact absurd (h2.trans (h.trans h4.symm)).symm (hd b a h3 h1 hlt')
inductive KL (ids : List Nat) (nx : Nat) : List Nat -> List Nat -> Prop
 | nil : KL ids nx [] []
 | cons (k : Nat) {x l l0} (h : zjP ids nx k = x) (t : KL ids nx l l0) : KL ids nx (x :: l) (k :: l0)
theorem KL.map {ids nx l l0} (h : KL ids nx l l0) : l = l0.map (zjP ids nx) := by
 induction h with
 | nil => rfl
 | cons k h t ih => rw [List.map_cons, h, <- ih]
inductive KF (ids : List Nat) (nx : Nat) : Fp4 -> Fp4 -> Prop
 | nil : KF ids nx [] []
 | cons {a a0 b b0 k fp fp0} (h1 : KL ids nx a a0) (h2 : KL ids nx b b0) (h3 : KF ids nx fp fp0) : KF ids nx ((a, b, k) :: fp) ((a0, b0, k) :: fp0)
theorem KF.map {ids nx l l0} (h : KF ids nx l l0) : l = l0.map fun p => (p.1.map (zjP ids nx), p.2.1.map (zjP ids nx), p.2.2) := by
 induction h with
 | nil => rfl
 | cons h1 h2 _ ih => rw [List.map_cons, <- h1.map, <- h2.map, <- ih]
theorem zoN {ρ : Nat -> Nat} (hρ : ∀ a b, ρ a = ρ b -> a = b) (a b : List Nat) : zm6 (a.map ρ) (b.map ρ) = zm6 a b := by
 unfold zm6;rw [List.all_map]
 congr 1
 funext y;simp only [Function.comp]
 congr 1
 rw [Bool.eq_iff_iff];simp only [List.contains_eq_mem, decide_eq_true_eq, List.mem_map];exact ⟨fun ⟨z, h1, h2⟩ => hρ _ _ h2 ▸ h1, fun h => ⟨y, h, rfl⟩⟩
theorem zdu {ops : List Oper} {fp : Fp4} (ids : List Nat) (nx : Nat) (hd : ids.Nodup) (hlt : ∀ x ∈ ids, x < nx) (h : ∃ fp0, KF ids nx fp fp0 /\ zrn ops fp0 = true) : zrn ops fp = true := by
 obtain ⟨fp0, hk, h⟩ := h;have hr := hk.map;subst hr;have hρ : ∀ a b, zjP ids nx a = zjP ids nx b -> a = b := fun a b => zpy hd hlt;have g4 : ∀ i, (fp0.map fun p => (p.1.map (zjP ids nx), p.2.1.map (zjP ids nx), p.2.2)).getD i ([], [], 0) = (((fp0.getD i ([], [], 0)).1.map (zjP ids nx), (fp0.getD i ([], [], 0)).2.1.map (zjP ids nx), (fp0.getD i ([], [], 0)).2.2)) := fun i => by
  simp only [List.getD_eq_getElem?_getD, List.getElem?_map];cases fp0[i]? <;> rfl
 have g2 : ∀ i, ((fp0.map fun p => (p.1.map (zjP ids nx), p.2.1.map (zjP ids nx), p.2.2)).map fun p => (p.1, p.2.1)).getD i ([], []) =
   ((((fp0.map fun p => (p.1, p.2.1)).getD i ([], [])).1.map (zjP ids nx), ((fp0.map fun p => (p.1, p.2.1)).getD i ([], [])).2.map (zjP ids nx))) := fun i => by
  simp only [List.getD_eq_getElem?_getD, List.getElem?_map];cases fp0[i]? <;> rfl
 unfold zrn okP at h ⊢;simp only [g4, g2, <- List.map_append, zoN hρ, List.isEmpty_map] at h ⊢;exact h
theorem zhP {P : Program} {Γ : Ctx} {N : Nat} {s : St} {dst : Option Tmp} {rest fp C k} {fop : Operand} {args : Array Operand} {ts : Array TypeId} {f caps} {ds : List D} {d : D} {j : Nat} {ob ob' : Ob}
  (hret : ∀ nx, s.next <= nx -> RetX P f ds [(j, ob)] nx fun r o n => r = .val d /\ o = [(j, ob')] /\ n = nx)
  (hj : getK s.obs j = some ob) (hf : zaz (opd s fop) = some (f, caps)) (hc : zak P f = true) (hds : args.toList.map (opd s) ++ caps = ds)
  (hu : d.under N = true /\ ob'.under N = true) (hp : zaI dst s)
  (h : HD4 P Γ N rest (({ s with obs := zaY [(j, some ob')] s.obs } : St).put dst d) (fp ++ [([j], [j], 0)]) C k) :
  HD4 P Γ N (⟨dst, .call { callee := .value fop, args, argTypes := ts }, none⟩ :: rest) s fp C k :=
 zqL [(j, ob)] [(j, ob')] (fun nx hnx => (hret nx hnx).mono fun r o n ⟨h1, h2, h3⟩ => ⟨h1, fun y => by rw [h2], h3⟩) hf hc hds rfl (by simpa using hj) (by simp) ⟨hu.1, by simpa using hu.2⟩ hp h
theorem zgb {P : Program} {Γ : Ctx} {N : Nat} {s : St} {dst : Option Tmp} {rest fp C k} {fop : Operand} {args : Array Operand} {ts : Array TypeId} {f caps} {ds : List D} {j : Nat} {ob : Ob} {ch : List PanicEntry} {p : Ob -> Prop}
  (hret : ∀ nx, s.next <= nx -> RetX P f ds [(j, ob)] nx fun r o n => r = .pan ch /\ (∃ ob', p ob' /\ o = [(j, ob')]) /\ n = nx)
  (hj : getK s.obs j = some ob) (hf : zaz (opd s fop) = some (f, caps)) (hc : zak P f = true) (hds : args.toList.map (opd s) ++ caps = ds) (hp : zaI dst s)
  (hx : ∀ env ob' n, s.next <= n -> p ob' -> ∃ s2, Wk Γ { n := s.n, env := env, obs := del s.obs j ++ [(j, ob')], next := n } s2 /\ Γ.pan ch s2)
  (h : HD4 P Γ N rest (s.put dst .any) (fp ++ [([], [], 1)]) C k) :
  HD4 P Γ N (⟨dst, .call { callee := .value fop, args, argTypes := ts }, none⟩ :: rest) s fp C k := by
 have hfil : (s.obs.filter fun p => !(([(j, ob)] : List (Nat × Ob)).map (·.1)).contains p.1) = del s.obs j := by
  unfold del
  congr 1
  funext p;simp only [List.map_cons, List.map_nil, List.contains_cons, List.contains_nil, Bool.or_false]
 refine zqJ (post := fun r o _ => r = .pan ch /\ ∃ ob', p ob' /\ o = [(j, ob')]) [(j, ob)] (fun nx hnx => (hret nx hnx).mono fun r o n ⟨h1, h2, _⟩ => ⟨h1, h2⟩) (fun d o n h => by cases h.1) hf hc hds (by simpa using hj) hp (fun env ch' o n hn h => ?_) h;obtain ⟨h1, ob', h2, rfl⟩ := h;cases h1;rw [hfil];exact hx env ob' n hn h2
theorem zfc {P Γ N s dst op g rest fp C k} (_ : (fp.any fun p => p.2.2 == 1) = true) (hp : zaI dst s) (h : HD4 P Γ N rest (s.put dst .any) (fp ++ [([], [], 2)]) C k) : HD4 P Γ N (⟨dst, op, g⟩ :: rest) s fp C k := zqK hp h
theorem FinOK.cut {n0 : Nat} {post : D -> List (Nat × Ob) -> Nat -> Prop} {s : St} {d : D} (obs : List (Nat × Ob)) (N : Nat) (ho : ∀ p ∈ obs, getK s.obs p.1 = some p.2 /\ p.1 < N /\ p.2.under N = true) (hd : d.under N = true) (hn : n0 <= N)
  (h : post d obs N) : FinOK n0 post s d :=
 .inl ⟨{ s with env := [], obs := obs, next := N }, fun i => i, d, ⟨rfl, fun x d' hx => by simp [getK] at hx, fun x d' hx => by simp [getK] at hx,
  fun i ob hi => ⟨(ho _ (zfA hi)).2.1, ob, (ho _ (zfA hi)).1, Ob.le_id ob, (ho _ (zfA hi)).2.2⟩, fun _ _ _ _ _ _ h => h, fun i hi => ⟨rfl, Nat.lt_of_lt_of_le hi hn⟩⟩, D.le_id d, hd, hn, h⟩
def zs9 : D -> Bool
 | .vec .. => true
 | _ => false
theorem zaJ {P : Program} {Γ : Ctx} {s : St} {k : St -> Prop} {dst : Option Tmp} {fop : Operand} {args : List Operand} (_ : (args.map (opd s)).any zs9 = true) (h : CallP P Γ fop args dst (frzN 1 s) k) : CallP P Γ fop args dst s k :=
 zmc (Wk.frzN 1 _) h
end Go.VL
namespace Go.VL
open Go
def zlh {α : Type} (obs : List (Nat × α)) : List Nat -> List (Nat × α)
 | [] => obs
 | i :: l => zlh (del obs i) l
theorem zfE {α : Type} : ∀ (l : List Nat) (obs : List (Nat × α)), zlh obs l = obs.filter fun p => !l.contains p.1
 | [], obs => by rw [zlh]; exact (List.filter_eq_self.2 (by simp)).symm
 | i :: l, obs => by
  rw [zlh, zfE l, del, List.filter_filter]
  congr 1
  funext p;simp only [List.contains_cons];cases p.1 == i <;> cases l.contains p.1 <;> rfl
theorem zl3 {obs O : List (Nat × Ob)} (hO : ∀ p ∈ O, getK obs p.1 = some p.2) (i : Nat) : getK obs i = getK (zlh obs (O.map (·.1)) ++ O) i := by
 rw [zfE, zab, zcH];by_cases hy : (O.map (·.1)).contains i = true
 ·rw [if_pos hy];obtain ⟨x, hx⟩ := zc2 (l := O) (y := i) (by simpa using hy);rw [hx, hO _ (ze3 hx)]
 ·rw [if_neg hy, zbK O i (by simpa using hy)];cases getK obs i <;> rfl
theorem zku {obs O : List (Nat × Ob)} (i : Nat) (ob : Ob) (h : getK (zlh obs (O.map (·.1))) i = some ob) : getK O i = none := by
 rw [zfE, zcH] at h;by_cases hc : (O.map (·.1)).contains i = true
 ·rw [if_pos hc] at h; cases h
 ·exact zbK O i (by simpa using hc)
theorem CallP.okL {P : Program} {Γ : Ctx} {s : St} {k : St -> Prop} {dst : Option Tmp} {fop : Operand} {args : List Operand} {f caps} {ds : List D} {O O' : List (Nat × Ob)} {d : D} {N : Nat}
  (hret : RetX P f ds O s.next fun r o n => r = .val d /\ o = O' /\ n = N) (hO : ∀ p ∈ O, getK s.obs p.1 = some p.2)
  (hf : zaz (opd s fop) = some (f, caps)) (hds : args.map (opd s) ++ caps = ds)
  (hk : zak P f = true ∧ zaI dst s ∧ k (({ s with obs := zlh s.obs (O.map (·.1)) ++ O', next := N } : St).put dst d)) : CallP P Γ fop args dst s k :=
 CallP.xF (zlh s.obs (O.map (·.1))) O hret (zl3 hO) zku hf hk.1 hds hk.2.1 (fun d' o1 nx' _ ⟨h1, h2, h3⟩ => by cases h1; subst h2; subst h3; exact hk.2.2) (fun ch o1 nx' _ ⟨h1, _⟩ => by cases h1)
theorem LeaveD.of {P : Program} {Γb : Ctx} {fn : Func} {post : Out -> List (Nat × Ob) -> Nat -> Prop} {g : FuncId} {caps : List D} {u : FrameMode} {s : St} (O : List (Nat × Ob)) {O' : List (Nat × Ob)} (hO : ∀ p ∈ O, getK s.obs p.1 = some p.2)
  (h : RetDf P g caps O s.next u fun u' o n => settle u' = .returning /\ n = s.next /\ o = O') (hk : EndW P Γb fn Γb.n0 (fun d o n => post (.val d) o n) .ret { s with obs := zlh s.obs (O.map (·.1)) ++ O', next := s.next }) :
  LeaveD P Γb fn post g caps u s :=
 ((h.frame (zlh s.obs (O.map (·.1))) zku).congr (zl3 hO)).mono fun u' o n ⟨o1, ho, hs, hn, ho1⟩ => ⟨hs, by subst ho; subst ho1; subst hn; exact hk⟩
end Go.VL
namespace Go.VL
open Go
theorem zoX {P : Program} {k own s a w} (hs : Sim k own s a w) {fop : Operand} {args : Array Operand} {ts : Array TypeId} {ty : TypeId} {f first} (hf : opd s fop = .bnd (.func f) first) (hc : zak P f = true)
  (dst : Option Tmp) (pos : String) (after : Array Edge) (g : Option (Nat × Bool)) :
  ∃ vs, RepL k (first ++ args.toList.map (opd s)) vs /\ (execOp a.eval { dst, op := .call { callee := .value fop, args, argTypes := ts }, type := ty, pos, after, guard := g }).run P w = .ok (.enter f vs) w := by
 have hr := zaM hs fop;rw [hf] at hr;obtain ⟨cv, hl, hv, hcap⟩ := znF hr;refine ⟨cv.toArray ++ args.map a.eval, ⟨by simp [hl], fun j d hj => ?_⟩, ?_⟩
 ·by_cases hlt : j < first.length
  ·rw [List.getElem?_append_left hlt] at hj;have := hcap j d hj;have e : (cv.toArray ++ args.map a.eval).getD j undef = cv.getD j undef := by
    have hlt2 : j < cv.length := by omega
    simp [Array.getElem?_append, hlt2]
   rw [e];exact this
  ·rw [List.getElem?_append_right (Nat.le_of_not_lt hlt)] at hj;have := zeZ hs args.toList (j - first.length) d hj;have e : (cv.toArray ++ args.map a.eval).getD j undef = (args.toList.map a.eval).getD (j - first.length) undef := by
    have hlt2 : ¬ j < cv.length := by omega
    simp [Array.getElem?_append, hlt2, hl]
   rw [e];exact this
 ·unfold zak at hc;split at hc
  ·rename_i fn hfn;simp at hc;obtain ⟨hb, hname⟩ := hc;have hb' : fn.body.isNone = false := by cases hbb : fn.body <;> simp_all
   have hname' : (fn.name == "runtime.NumGoroutine") = false := by simpa using hname
   simp only [execOp];simp [resolve, hv, Deferred.ofValue, invoke, callFunc, hfn, hname', hb', hname];intro h0;rw [h0] at hb;simp at hb
  ·cases hc
theorem EffP.ztW {P Γ s k} {fop : Operand} {args : Array Operand} {ts : Array TypeId} {ty : TypeId} {f first dst pos after} {ds : List D} {post : Out -> List (Nat × Ob) -> Nat -> Prop}
  (hf : opd s fop = .bnd (.func f) first) (hc : zak P f = true) (hds : first ++ args.toList.map (opd s) = ds) (hret : RetX P f ds s.obs s.next post) (hp : zaI dst s)
  (hk : ∀ d obs' nx', s.next <= nx' -> post (.val d) obs' nx' -> k (({ s with obs := obs', next := nx' } : St).put dst d))
  (hx : ∀ ch obs' nx', s.next <= nx' -> post (.pan ch) obs' nx' -> ∃ s2, Wk Γ { s with obs := obs', next := nx' } s2 /\ Γ.pan ch s2) :
  EffP P Γ { dst, op := .call { callee := .value fop, args, argTypes := ts }, type := ty, pos, after, guard := none } s k := by
 intro K a w hin hs Kont Q hK hP;obtain ⟨vs, hrep, hrun⟩ := zoX hs (args := args) (ts := ts) (ty := ty) hf hc dst pos after none;rw [hds] at hrep;unfold Oper.wp;rw [hrun];refine Calls.mono (hret K Γ.own w vs hs.sat hs.hdr (fun b hb => hin.own_of_ge hb) hrep) ?_;rintro e w' ⟨r, obs', nx', k', hr, hin', hsat', hhdr', hnx, hpost⟩;have hle : K.le k' := hin'.le;have hin2 : In Γ k' w' := hin.step hle (fun b o v e => hin'.memNew b o v e) hin'.os hin'.tape hin'.output hin'.size hin'.block;have hsim : Sim k' Γ.own ({ s with obs := obs', next := nx' } : St) a w' := ⟨hsat', hs.defers, hs.size, fun x d hx => ⟨(hs.env x d hx).1, (hs.env x d hx).2.mono hle⟩, hhdr'⟩;cases r with
 | val d =>
  obtain ⟨v, rfl, hr⟩ := hr;exact hK k' _ w' _ hin2 (hsim.put (by cases dst <;> simp_all [zaI]) hr) (hk d obs' nx' hnx hpost)
 | pan ch =>
  obtain rfl := hr;obtain ⟨s2, hw, hpn⟩ := hx ch obs' nx' hnx hpost;obtain ⟨k2, g1, g2⟩ := hw k' a w' hin2 hsim;exact hP ch k2 a w' s2 g1 g2 hpn
theorem CallP.b_ {P : Program} {Γ : Ctx} {s : St} {k : St -> Prop} {dst : Option Tmp} {fop : Operand} {args : List Operand} {f first} {ds : List D} {post : Out -> List (Nat × Ob) -> Nat -> Prop} (hret : RetX P f ds s.obs s.next post)
  (hf : opd s fop = .bnd (.func f) first) (hc : zak P f = true) (hds : first ++ args.map (opd s) = ds) (hp : zaI dst s)
  (hk : ∀ d obs' nx', s.next <= nx' -> post (.val d) obs' nx' -> k (({ s with obs := obs', next := nx' } : St).put dst d))
  (hx : ∀ ch obs' nx', s.next <= nx' -> post (.pan ch) obs' nx' -> ∃ s2, Wk Γ { s with obs := obs', next := nx' } s2 /\ Γ.pan ch s2) : CallP P Γ fop args dst s k :=
 fun _ _ _ _ => EffP.ztW hf hc hds hret hp hk hx
theorem CallP.bok {P : Program} {Γ : Ctx} {s : St} {k : St -> Prop} {dst : Option Tmp} {fop : Operand} {args : List Operand} {f first} {ds : List D} {j : Nat} {ob ob' : Ob} {d : D}
  (hret : RetX P f ds [(j, ob)] s.next fun r o n => r = .val d /\ o = [(j, ob')] /\ n = s.next) (hobs : s.obs = [(j, ob)])
  (hf : opd s fop = .bnd (.func f) first) (hc : zak P f = true) (hds : first ++ args.map (opd s) = ds) (hp : zaI dst s)
  (hk : k (({ s with obs := [(j, ob')], next := s.next } : St).put dst d)) : CallP P Γ fop args dst s k :=
 CallP.b_ (hobs ▸ hret) hf hc hds hp (fun d' o1 nx' _ ⟨h1, h2, h3⟩ => by cases h1; subst h2; subst h3; exact hk) (fun ch o1 nx' _ ⟨h1, _⟩ => by cases h1)
end Go.VL
namespace Go.VL
open Go
def zeg : D -> D
 | .u x => if zbn x then .u x else .any
 | .tup ds => .tup (ds.map fun d => zeg d)
 | _ => .any
theorem Rep.mask {k k' : Kr} : ∀ {d : D} {v : Value}, Rep k d v -> Rep k' (zeg d) v
 | .u x, v, h => by
  rw [zeg];split
  ·rename_i hs;cases h with | u _ _ h => exact .u _ _ (h.scalar hs)
  ·exact .any v
 | .tup ds, v, h => by
  obtain ⟨vs, hl, rfl, hr⟩ := zgj h;rw [zeg];refine .tup _ vs (by simpa using hl) fun j d hj => ?_;rw [List.getElem?_map] at hj;cases hq : ds[j]? with
  | none => rw [hq] at hj; cases hj
  | some d' =>
   rw [hq] at hj;cases hj;have hm := List.mem_of_getElem? hq;exact Rep.mask (hr j d' hq)
 | .any, v, _ => by simp only [zeg]; exact .any v
 | .ptr .., v, _ => by simp only [zeg]; exact .any v
 | .vec .., v, _ => by simp only [zeg]; exact .any v
 | .elt .., v, _ => by simp only [zeg]; exact .any v
 | .mp .., v, _ => by simp only [zeg]; exact .any v
 | .fnc .., v, _ => by simp only [zeg]; exact .any v
 | .bnd .., v, _ => by simp only [zeg]; exact .any v
 | .agg .., v, _ => by simp only [zeg]; exact .any v
termination_by d => SizeOf.sizeOf d
decreasing_by
 simp_wf
 have := List.sizeOf_lt_of_mem hm;omega
theorem zkC {P Γ s} {fop : Operand} {args : Array Operand} {ts : Array TypeId} {ty : TypeId} {f caps dst pos after guard} {ds : List D} {L : List Nat} {post : D -> Prop}
  (hf : zaz (opd s fop) = some (f, caps)) (hc : zak P f = true) (hds : zcb s (args.toList.map (opd s) ++ caps) = some (ds, L)) (hret : Fun P f ds post)
  {K : Kr} {a : Act} {w : World} (hin : In Γ K w) (hs : Sim K Γ.own s a w) {Kont : Act -> World -> Prop} {Q : Exit -> Act -> World -> Prop}
  (hK : ∀ v d w', In Γ K w' -> Sat K Γ.own s.obs w' -> Rep K (zeg d) v -> post d -> Kont (a.put dst v) w') :
  Oper.wp P { dst, op := .call { callee := .value fop, args, argTypes := ts }, type := ty, pos, after, guard } a w Kont Q := by
 obtain ⟨vs, hrep, hrun⟩ := zg2 hs (args := args) (ts := ts) (ty := ty) hf hc dst pos after guard;obtain ⟨h1, h2, hLo⟩ := zhL hs L (fun _ => none) (vs := vs.toList) hds (by simpa using hrep.1.symm) (fun j d hj => by simpa using hrep.2 j d hj) (fun _ h => h);unfold Oper.wp;rw [hrun];have hsat1 : Sat ⟨lentMem K L w, fun _ => none, zej hs L⟩ (fun b => w.heap.size <= b) [] w := ⟨fun b o v hv => by
   simp only [lentMem] at hv;split at hv
   ·exact hv
   ·exact hs.sat.mem b o v hv, fun i ob hi => by simp [VL.getK] at hi, fun i j x y h g b hx => by simp [VL.getK] at hx⟩
 refine Calls.mono (hret ⟨lentMem K L w, fun _ => none, zej hs L⟩ (fun b => w.heap.size <= b) w vs hsat1 (fun _ _ => rfl) (fun b hb => hb) ⟨by simpa using h1.symm, fun j d hj => by simpa using h2 j d hj⟩) ?_;rintro e w' ⟨v, d, obs', nx', k', rfl, hin', hsat', hhdr', hnx, hr, hpure, hpost⟩;have hheap : ∀ b, b < w.heap.size -> w'.heap[b]? = w.heap[b]? := fun b hb => hin'.block b (by simpa [Ctx.of] using hb);have hin2 : In Γ K w' := hin.step (.refl _) (fun b o v e => .inl e) hin'.os hin'.tape hin'.output hin'.size fun b hb => by
  rcases Nat.lt_or_ge b w.heap.size with h | h
  ·exact hheap b h
  ·exact absurd (hin.own_of_ge h) hb
 have hsat2 : Sat K Γ.own s.obs w' := hs.sat.keep (.refl _) (fun b hb => hheap b (hs.sat.lt hb)) (fun b o v hv => by
  rw [zdD (hheap b (hs.sat.memLt hv))];exact hs.sat.mem b o v hv) (fun b ⟨i, ob, g, h3, h4, h5⟩ o => by
  obtain ⟨g', h6, h7, _⟩ := hs.sat.ob i ob h3;rw [h4] at h6;cases h6;exact (h7 b h5).2 o)
 exact hK v d w' hin2 hsat2 hr.mask hpost
theorem Eff.zqP {P Γ s k} {fop : Operand} {args : Array Operand} {ts : Array TypeId} {ty : TypeId} {f caps dst pos after} {ds : List D} {L : List Nat} {post : D -> Prop}
  (hf : zaz (opd s fop) = some (f, caps)) (hc : zak P f = true) (hds : zcb s (args.toList.map (opd s) ++ caps) = some (ds, L)) (hret : Fun P f ds post) (hp : zaI dst s)
  (hk : ∀ d, post d -> k (s.put dst (zeg d))) :
  Eff P Γ { dst, op := .call { callee := .value fop, args, argTypes := ts }, type := ty, pos, after, guard := none } s k := by
 intro K a w hin hs Kont Q hK;refine zkC hf hc hds hret hin hs fun v d w' h1 h4 h5 h6 => ?_;have hsim : Sim K Γ.own s a w' := ⟨h4, hs.defers, hs.size, fun x d hx => hs.env x d hx, fun i hi => hs.hdr i hi⟩;exact hK K _ w' _ h1 (hsim.put (by cases dst <;> simp_all [zaI]) h5) (hk d h6)
section
variable {P : Program} {Γ : Ctx} {s : St} {k : St -> Prop} {dst : Option Tmp}
theorem CallP.zsX {fop : Operand} {args : List Operand} {f caps} {ds : List D} {L : List Nat} {post : D -> Prop} (hret : Fun P f ds post)
  (hf : zaz (opd s fop) = some (f, caps)) (hc : zak P f = true) (hds : zcb s (args.map (opd s) ++ caps) = some (ds, L)) (hp : zaI dst s)
  (hk : ∀ d, post d -> k (s.put dst (zeg d))) : CallP P Γ fop args dst s k :=
 fun _ _ _ _ => Eff.p (Eff.zqP hf hc hds hret hp hk)
end
end Go.VL
namespace Go.VL
open Go
open Go.ChangeShapes Go.WideShapes Go.ChangeAt Go.WideMaps Go.WideElems Go.RowKit
theorem zpR {H : Type} {enc : TypeId × Value -> H} {C : Checked} {os : Os} {f : FuncId} {fn : Func} {s : ChangeSpec} {conds : List PathCond} {apart fresh handsOn again : Bool} {tb : TypeId} {laid : List (String × DataW Unit)}
  (own : ownKnob C.prog.godebug = none) (started : os.Started) (noInit : C.prog.inits.idxOf? f = none) (hfn : C.prog.funcs[f]? = some fn)
  (witness : ∃ (w : World) (tape : Tape) (i : Input), w.os = os /\ (w.forCall tape i).Shaped C.prog /\ i.vars = [] /\ Input.okWide C.prog (w.forCall tape i) .any w.heap.size f i /\
    ((s.pre enc C.prog fn conds apart (w.forCall tape i).memory i.args /\ laidMetH C.prog laid (w.forCall tape i).memory) /\ sizedMet enc C.prog fn (OpenSpec.ofChange s) apart (w.forCall tape i).memory i.args) /\ (({} : Assume)).holds C.prog (lone (Frame.enter C.prog f i.args .normal) [] (w.forCall tape i)))
  (hl : laidOutB C.prog = true) (hseq : zik C.prog = true) (hpar : (fn.params.toList.all fun t => C.prog.readableRec t && decide (t < C.prog.types.size)) = true)
  (hvars : s.vars = []) (hspec : ∀ ds : List (DataW H), ds.length = fn.params.size -> s.fn H ds = { results := [.lit (.bool true)], args := ds })
  (hres : fn.resultTypes = #[tb]) (htb : C.prog.underlying tb = some .bool)
  (hfun : ∀ us : List U, zqQ C.prog fn.params.toList us -> Fun C.prog f (us.map .u) (· = .u (.bool true))) (hglob : ∀ W : World, laidMetH C.prog laid W -> GlobIn (zid W)) :
  ReturnsInHanded {} C os f .any (fun w args => (s.pre enc C.prog fn conds apart w args /\ laidMetH C.prog laid w) /\ sizedMet enc C.prog fn (OpenSpec.ofChange s) apart w args) (s.post enc C.prog fn apart fresh handsOn again) := by
 refine returnsInHanded_of_change_and (X := fun w _ => laidMetH C.prog laid w) (fun _ _ _ hh h => h.of_heap hh) own started noInit hfn witness ?_;intro W base args ds gs before hval hW _ _ hL _;have hpar' : ∀ t ∈ fn.params.toList, C.prog.readableRec t = true /\ t < C.prog.types.size := by
  intro t ht;have := List.all_eq_true.1 hpar t ht;simpa using this
 have hW' := hW;obtain ⟨p, q, hA, hV, rfl, hfz, hnd⟩ := hW;rw [hvars] at hV;obtain ⟨rfl, rfl⟩ := trodVars_none hV;have hlt : ∀ x ∈ p, x.block < W.heap.size := fun x hx => hW'.lt x (by simp [hx]);obtain ⟨us, h1, h2, _⟩ := zl9 hseq hA (fun t ht => (hpar' t ht).2) (fun j t v ht hv => hval j t v (by simpa using ht) (by simpa using hv));refine (zkB (hfun us h1) (hglob W hL) h2).mono ?_;rintro e W' ⟨rfl, hb⟩;have hdl : ds.length = fn.params.size := by
  have : ∀ {ts : List TypeId} {vs : List Value} {ds : List (DataW H)} {p : List MemPlace}, DataW.TrodAll enc C.prog W 0 (fun _ => true) true ts vs ds p -> ds.length = ts.length := by
   intro ts
   induction ts with
   | nil => intro vs ds p h; cases vs <;> cases ds <;> simp_all [DataW.TrodAll]
   | cons t ts ih =>
    intro vs ds p h;cases vs <;> cases ds <;> simp only [DataW.TrodAll] at h;obtain ⟨p, q, _, h2, _⟩ := h;simp [ih h2]
  simpa using this hA
 have hs := hspec ds hdl;refine ⟨_, rfl, zmv (pa := p) (pv := []) hW' (fun b sp hd => ?_) (fun sp hsp => ?_) (fun sp _ => ?_) rfl hb (fun j t r ht hr => ?_)⟩
 ·rw [List.append_nil, hs, hres];exact trodAll_mk1 ⟨1, by simp [DataW.trod, Value.cells, htb]⟩
 ·rw [List.append_nil, hs];exact zfQ hl hb hpar' hA hlt fun x hx => hsp x (by simp [hx])
 ·rw [List.append_nil, hs, hvars]
  try rfl
 ·rw [hres] at ht hr;cases j with
  | zero =>
   simp at ht;subst ht;simp [Value.resultList] at hr;subst hr;simp [Value.okWide, htb, Cell.okWide, Cell.ok]
  | succ j => simp at ht
theorem zju {P : Program} {w : World} {n : String} {g : Nat} {t e : TypeId} {cs : Array Value} {L : List (List UInt8)} {fuel : Nat} {H : Type} {enc : TypeId × Value -> H} {base : Nat} {spare : Nat -> Bool} {held : Bool} {q : List MemPlace}
  (hg : P.globalNamed n = some g) (hv : w.var? P n = some cs) (ht : P.underlying t = some (.array L.length e)) (he : P.underlying e = some .string) (hc : P.cellsOf e = 1)
  (hd : DataW.trod enc P w base spare held fuel t cs.toList = some (.agg (L.map fun b => .lit (.string b)), q)) : ∀ (j : Nat) (b : List UInt8), L[j]? = some b -> w.cell? ⟨g, j, none⟩ = some (.string ⟨b.toArray⟩) := by
 intro j b hj;obtain ⟨xs, m1, rfl, hx1, hlen, hn3, hel⟩ := DataW.trod_array ht hd;have hjl := (lGE.1 hj).1;have h := hel j hjl;rw [hc, Nat.mul_one] at h;simp only [Prod.mk.injEq, DataW.agg.injEq] at hx1;obtain ⟨x, hx⟩ : ∃ x, xs[j]? = some x := ⟨_, List.getElem?_eq_getElem (by omega)⟩;rw [hx] at h;obtain ⟨s, h1, h2, _⟩ := DataW.trod_string he h;have h3 : (L.map fun b => (DataW.lit (.string b) : DataW H))[j]? = (xs.map (·.1))[j]? := by rw [hx1.1]
 rw [List.getElem?_map, List.getElem?_map, hj, hx, h2] at h3;simp only [Option.map_some, Option.some.injEq, DataW.lit.injEq, Lit.string.injEq] at h3;have h4 : (cs.toList.drop j)[0]? = some (.string s) := by
  have : ((cs.toList.drop j).take 1)[0]? = some (.string s) := by rw [h1]; rfl
  simpa [List.getElem?_take] using this
 rw [List.getElem?_drop, Nat.add_zero] at h4;rw [World.var?_cell hg hv j];rw [Array.getElem?_toList] at h4;rw [h4, h3]
end Go.VL
namespace Go.Proofs.YtepiegcjnaohjaaGreatDoor
open Go Go.VL Go.Proofs
def zft (zs : List Int) : List Int := zs.mergeSort fun x y => decide (x <= y)
theorem zpv (t j nx : Nat) (hj : j < nx) (zs : List Int) (hz : zs.length <= 1099511627776) : Ret Tryz.prog 144 [.vec j zs.length] [(j, .vec t 1 (zbs zs))] nx
  fun d obs nx' => d = .tup [] /\ obs = [(j, .vec t 1 (zbs (zft zs)))] /\ nx' = nx :=
 Ret.zrY (ret := fun _ _ => .tuple #[]) hj (by simp [zft]) (by simp only [maxLen]; omega) (fun blk cap w hH hb _ _ => Tryz.slices_Sort_int blk 0 cap zs w hH hb (by omega)) (fun _ p cap w => Tryz.slices_Sort_int_none p cap w) (.inl ⟨rfl, fun _ _ => rfl⟩)
end Go.Proofs.YtepiegcjnaohjaaGreatDoor
namespace Go.Proofs.YtepiegcjnaohjaaGreatDoor
open Go Go.VL Go.Proofs
def zlm (zs : List Int) : List Int := Lib.compact zs ++ List.replicate (zs.length - (Lib.compact zs).length) 0
theorem zky (zs : List Int) : (zlm zs).length = zs.length := by
 have := Lib.compact_length_le zs;simp only [zlm, List.length_append, List.length_replicate];omega
theorem zlk (t j nx : Nat) (hj : j < nx) (zs : List Int) (hz : zs.length <= 1099511627776) : Ret Tryz.prog 145 [.vec j zs.length] [(j, .vec t 1 (zbs zs))] nx
  fun d obs nx' => d = .vec j (Lib.compact zs).length /\ obs = [(j, .vec t 1 (zbs (zlm zs)))] /\ nx' = nx :=
 Ret.zrY (ret := fun a c => .slice a (Lib.compact zs).length c) hj (zky zs) (by simp only [maxLen]; omega)
  (fun blk cap w hH hb hc _ => (Tryz.slices_Compact_int blk 0 cap zs w hH (by omega) hc).mono fun e w' ⟨h1, q, h2⟩ => ⟨h1, q, #[], by rw [h2, Go.Sort.grow_empty]; rfl⟩)
  (fun h0 p cap w => by subst h0; exact Tryz.slices_Compact_int_empty p cap w) (.inr ⟨_, rfl, fun _ _ => rfl⟩)
end Go.Proofs.YtepiegcjnaohjaaGreatDoor
namespace Go.Proofs.YtepiegcjnaohjaaGreatDoor.Df
structure Con where
 A : Int
 B : Int
 N : Int
abbrev Con.a (c : Con) : Nat := c.A.toNat
abbrev Con.b (c : Con) : Nat := c.B.toNat
abbrev zjc : Int := 1099511627776
structure GS where
 val : Nat -> Int
 kn : Nat -> Bool
 pre : Nat -> Option Nat
def GS.zero (bg : Nat -> Bool) : GS := ⟨fun _ => 0, bg, fun _ => none⟩
def GS.can (g : GS) (c : Con) : Bool := g.kn c.b && (!g.kn c.a || decide (g.val c.b + c.N < g.val c.a))
def GS.upd (g : GS) (i : Nat) (c : Con) : GS := ⟨fun x => if x = c.a then g.val c.b + c.N else g.val x, fun x => if x = c.a then true else g.kn x, fun x => if x = c.a then some i else g.pre x⟩
def bk (l : List Con) (g : GS) (x : Nat) : Nat := match g.pre x with
 | some i => match l[i]? with
  | some c => c.b
  | none => x
 | none => x
def wt (l : List Con) (g : GS) (x : Nat) : Int := match g.pre x with
 | some i => match l[i]? with
  | some c => c.N
  | none => 0
 | none => 0
def it (l : List Con) (g : GS) : Nat -> Nat -> Nat
 | 0, x => x
 | k + 1, x => it l g k (bk l g x)
def sm (l : List Con) (g : GS) : Nat -> Nat -> Int
 | 0, _ => 0
 | k + 1, x => wt l g x + sm l g k (bk l g x)
def al (l : List Con) (g : GS) : Nat -> Nat -> Prop
 | 0, _ => True
 | k + 1, x => g.pre x ≠ none /\ al l g k (bk l g x)
structure Sub (l : List Con) (bg : Nat -> Bool) (K : Nat -> Prop) (y : Nat -> Int) : Prop where
 beg : ∀ x, bg x = true -> K x /\ y x <= 0
 step : ∀ c ∈ l, K c.b -> K c.a /\ y c.a <= y c.b + c.N
structure Inv (l : List Con) (bg : Nat -> Bool) (g : GS) : Prop where
 beg : ∀ x, bg x = true -> g.kn x = true /\ g.val x <= 0
 pre : ∀ x i, g.pre x = some i -> ∃ c, l[i]? = some c /\ c.a = x /\ g.kn x = true /\ g.kn c.b = true /\ g.val c.b + c.N <= g.val x
 root : ∀ x, g.kn x = true -> g.pre x = none -> bg x = true /\ g.val x = 0
 cyc : ∀ k x, al l g (k + 1) x -> it l g (k + 1) x = x -> sm l g (k + 1) x < 0
 low : ∀ K y, Sub l bg K y -> ∀ x, g.kn x = true -> K x /\ y x <= g.val x
theorem Inv.zero (l : List Con) (bg : Nat -> Bool) : Inv l bg (GS.zero bg) where
 beg x h := ⟨h, by simp [GS.zero]⟩
 pre x i h := by simp [GS.zero] at h
 root x h _ := ⟨h, rfl⟩
 cyc k x h _ := by simp [al, GS.zero] at h
 low K y h x hx := h.beg x hx
theorem zhK {l : List Con} {g : GS} {x i : Nat} {c : Con} (h : g.pre x = some i) (hc : l[i]? = some c) : bk l g x = c.b := by simp [bk, h, hc]
theorem zme {l : List Con} {g : GS} {x i : Nat} {c : Con} (h : g.pre x = some i) (hc : l[i]? = some c) : wt l g x = c.N := by simp [wt, h, hc]
theorem GS.zfH {g : GS} {c : Con} : g.can c = true ↔ g.kn c.b = true /\ (g.kn c.a = false \/ g.val c.b + c.N < g.val c.a) := by
 unfold GS.can;cases g.kn c.b <;> cases g.kn c.a <;> simp
theorem Inv.chain {l : List Con} {bg : Nat -> Bool} {g : GS} {i : Nat} {c : Con} (h : Inv l bg g) (hc : l[i]? = some c) (hr : g.can c = true) :
  ∀ (k x : Nat), (g.upd i c).kn x = true -> al l (g.upd i c) k x ->
   let p := fun x => if g.kn x = true then g.val x else g.val c.b + c.N + 1
   p (it l (g.upd i c) k x) + sm l (g.upd i c) k x < p x \/ (al l g k x /\ it l g k x = it l (g.upd i c) k x /\ sm l g k x = sm l (g.upd i c) k x /\ p (it l (g.upd i c) k x) + sm l (g.upd i c) k x <= p x) := by
 obtain ⟨hb, hd⟩ := GS.zfH.1 hr;intro k
 induction k with
 | zero => intro x _ _; right; simp only [al, it, sm, Int.add_zero]; exact ⟨trivial, trivial, trivial, Int.le_refl _⟩
 | succ k ih =>
  intro x hx ha;obtain ⟨h1, h2⟩ := ha;simp only;by_cases hxa : x = c.a
  ·have hp : (g.upd i c).pre x = some i := by simp [GS.upd, hxa]
   have hbk := zhK hp hc;have hwt := zme hp hc;rw [hbk] at h2;have hkb : (g.upd i c).kn c.b = true := by simp [GS.upd, hb]
   have := ih c.b hkb h2;simp only [hb, if_true] at this;left;simp only [it, sm, hbk, hwt];have hlt : g.val c.b + c.N < (if g.kn x = true then g.val x else g.val c.b + c.N + 1) := by
    rw [hxa];rcases hd with hd | hd
    ·rw [hd]; simp only [Bool.false_eq_true, if_false]; omega
    ·split <;> omega
   rcases this with this | ⟨_, _, _, this⟩ <;> omega
  ·have hp : (g.upd i c).pre x = g.pre x := by simp [GS.upd, hxa]
   have hkx : g.kn x = true := by simpa [GS.upd, hxa] using hx
   cases hq : g.pre x with
   | none => rw [hp, hq] at h1; exact absurd rfl h1
   | some j =>
    obtain ⟨d, e1, e2, e3, e4, e5⟩ := h.pre x j hq;have hbk : bk l (g.upd i c) x = d.b := zhK (hp.trans hq) e1;have hwt : wt l (g.upd i c) x = d.N := zme (hp.trans hq) e1;have hbk' : bk l g x = d.b := zhK hq e1;have hwt' : wt l g x = d.N := zme hq e1;rw [hbk] at h2;have := ih d.b (by simp [GS.upd, e4]) h2;simp only [e4, if_true] at this;simp only [it, sm, al, hbk, hwt, hbk', hwt', hkx, if_true];rcases this with this | ⟨a1, a2, a3, this⟩
    ·left; omega
    ·right;exact ⟨⟨by rw [hq]; simp, a1⟩, a2, by rw [a3], by omega⟩
theorem Inv.upd {l : List Con} {bg : Nat -> Bool} {g : GS} {i : Nat} {c : Con} (h : Inv l bg g) (hc : l[i]? = some c) (hr : g.can c = true) : Inv l bg (g.upd i c) := by
 obtain ⟨hb, hd⟩ := GS.zfH.1 hr;have hdown : ∀ x, g.kn x = true -> (g.upd i c).val x <= g.val x := fun x hx => by
  simp only [GS.upd];split
  ·rename_i e;subst e;rcases hd with hd | hd
   ·rw [hd] at hx; cases hx
   ·omega
  ·exact Int.le_refl _
 have hkn : ∀ x, g.kn x = true -> (g.upd i c).kn x = true := fun x hx => by simp [GS.upd, hx]
 refine ⟨fun x hx => ?_, fun x j hj => ?_, fun x hx hp => ?_, fun k x ha he => ?_, fun K y hs x hx => ?_⟩
 ·obtain ⟨h1, h2⟩ := h.beg x hx;have := hdown x h1;exact ⟨hkn x h1, by omega⟩
 ·by_cases hxa : x = c.a
  ·have : j = i := by simpa [GS.upd, hxa, eq_comm] using hj
   subst this;refine ⟨c, hc, hxa.symm, by simp [GS.upd, hxa], hkn _ hb, ?_⟩;have := hdown c.b hb;rw [hxa];have e : (g.upd j c).val c.a = g.val c.b + c.N := by simp [GS.upd]
   omega
  ·have hq : g.pre x = some j := by simpa [GS.upd, hxa] using hj
   obtain ⟨d, e1, e2, e3, e4, e5⟩ := h.pre x j hq;have := hdown d.b e4;have e : (g.upd i c).val x = g.val x := by simp [GS.upd, hxa]
   exact ⟨d, e1, e2, hkn x e3, hkn _ e4, by omega⟩
 ·by_cases hxa : x = c.a
  ·simp [GS.upd, hxa] at hp
  ·have hp' : g.pre x = none := by simpa [GS.upd, hxa] using hp
   have hx' : g.kn x = true := by simpa [GS.upd, hxa] using hx
   obtain ⟨h1, h2⟩ := h.root x hx' hp';exact ⟨h1, by simp [GS.upd, hxa, h2]⟩
 ·have hkx : (g.upd i c).kn x = true := by
   by_cases hxa : x = c.a
   ·simp [GS.upd, hxa]
   ·cases hq : g.pre x with
    | none => exact absurd (show (g.upd i c).pre x = none by simp [GS.upd, hxa, hq]) ha.1
    | some j =>
     obtain ⟨d, _, _, e3, _⟩ := h.pre x j hq;exact hkn x e3
  have := h.chain hc hr (k + 1) x hkx ha;simp only [he] at this;rcases this with this | ⟨a1, a2, a3, _⟩
  ·omega
  ·rw [<- a3];exact h.cyc k x a1 a2
 ·by_cases hxa : x = c.a
  ·obtain ⟨h1, h2⟩ := h.low K y hs c.b hb;obtain ⟨h3, h4⟩ := hs.step c (List.mem_of_getElem? hc) h1;subst hxa;exact ⟨h3, by simp only [GS.upd, if_true]; omega⟩
  ·have hx' : g.kn x = true := by simpa [GS.upd, hxa] using hx
   have := h.low K y hs x hx';simpa [GS.upd, hxa] using this
theorem ziz (l : List Con) (g : GS) : ∀ (j k x : Nat), it l g (j + k) x = it l g k (it l g j x)
 | 0, k, x => by simp [it]
 | j + 1, k, x => by rw [Nat.add_right_comm, it, it, ziz l g j k]
theorem zf9 (l : List Con) (g : GS) : ∀ (j k x : Nat), al l g (j + k) x ↔ al l g j x /\ al l g k (it l g j x)
 | 0, k, x => by simp [it, al]
 | j + 1, k, x => by rw [Nat.add_right_comm, al, al, it, zf9 l g j k, and_assoc]
theorem zsK {l : List Con} {g : GS} {k x j : Nat} (h : al l g k x) (hj : j < k) : g.pre (it l g j x) ≠ none := by
 have := (zf9 l g j (1 + (k - j - 1)) x).1 (by rw [show j + (1 + (k - j - 1)) = k by omega]; exact h);rw [Nat.add_comm 1] at this;exact this.2.1
theorem zmb {l : List Con} {g : GS} {k x : Nat} (hk : 0 < k) (ha : al l g k x) (he : it l g k x = x) : ∀ m, al l g m x := by
 intro m
 induction m using Nat.strongRecOn with
 | ind m ih =>
  by_cases h : m <= k
  ·exact ((zf9 l g m (k - m) x).1 (by rw [show m + (k - m) = k by omega]; exact ha)).1
  ·have := ih (m - k) (by omega);rw [show m = k + (m - k) by omega, zf9, he];exact ⟨ha, this⟩
theorem zlM {l : List Nat} {n : Nat} (hd : l.Nodup) (h : ∀ x ∈ l, x < n) : l.length <= n := by
 have : l ⊆ List.range n := fun x hx => List.mem_range.2 (h x hx);have h2 := List.Nodup.length_le_of_subset hd this;simpa using h2
theorem znu {n : Nat} (f : Nat -> Nat) (h : ∀ j, j <= n -> f j < n) : ∃ i j, i < j /\ j <= n /\ f i = f j := by
 apply Classical.byContradiction;intro hno;have hd : ((List.range (n + 1)).map f).Nodup := by
  rw [List.Nodup, List.pairwise_map];refine List.Pairwise.imp_of_mem (fun {a b} ha hb hab e => hno ⟨a, b, hab, ?_, e⟩) List.pairwise_lt_range;have := List.mem_range.1 hb;omega
 have := zlM (n := n) hd fun x hx => by
  obtain ⟨j, hj, rfl⟩ := List.mem_map.1 hx;have := List.mem_range.1 hj;exact h j (by omega)
 simp at this;omega
def OkC (n : Nat) (l : List Con) : Prop := ∀ c ∈ l, 0 <= c.A /\ c.A < n /\ 0 <= c.B /\ c.B < n /\ -zjc <= c.N /\ c.N <= zjc
theorem ztM {n : Nat} {l : List Con} {g : GS} {x : Nat} (hl : OkC n l) (hx : x < n) : bk l g x < n := by
 unfold bk;split
 ·split
  ·rename_i c hc;have := hl c (List.mem_of_getElem? hc);simp only [Con.b];omega
  ·exact hx
 ·exact hx
theorem zou {n : Nat} {l : List Con} {g : GS} (hl : OkC n l) : ∀ (k : Nat) {x : Nat}, x < n -> it l g k x < n
 | 0, _, hx => hx
 | k + 1, _, hx => zou hl k (ztM hl hx)
theorem zli {n : Nat} {l : List Con} {g : GS} (hl : OkC n l) {x : Nat} (hx : x < n) (ha : al l g n x) (hp : g.pre (it l g n x) ≠ none) :
  ∃ k, 0 < k /\ k <= n /\ al l g k (it l g n x) /\ it l g k (it l g n x) = it l g n x := by
 obtain ⟨i, j, hij, hj, e⟩ := znu (fun j => it l g j x) fun j _ => zou hl j hx;have hall : al l g (j - i) (it l g i x) := by
  have h1 : al l g (n + 1) x := (zf9 l g n 1 x).2 ⟨ha, hp, trivial⟩;have h2 := (zf9 l g i (n + 1 - i) x).1 (by rw [show i + (n + 1 - i) = n + 1 by omega]; exact h1);exact ((zf9 l g (j - i) (n + 1 - j) _).1 (by rw [show j - i + (n + 1 - j) = n + 1 - i by omega]; exact h2.2)).1
 have hback : it l g (j - i) (it l g i x) = it l g i x := by rw [<- ziz, show i + (j - i) = j by omega]; exact e.symm
 have hinf := zmb (by omega) hall hback;have he : it l g n x = it l g (n - i) (it l g i x) := by rw [<- ziz, show i + (n - i) = n by omega]
 refine ⟨j - i, by omega, by omega, ?_, ?_⟩
 ·rw [he];exact ((zf9 l g (n - i) (j - i) _).1 (hinf _)).2
 ·rw [he, <- ziz, Nat.add_comm, ziz, hback]
structure Rank (l : List Con) (g : GS) (L : Nat -> Nat) : Prop where
 pre : ∀ x i c, g.pre x = some i -> l[i]? = some c -> L x <= L c.b + 1
 unset : ∀ x, g.pre x = none -> L x = 0
theorem Rank.alive {l : List Con} {bg : Nat -> Bool} {g : GS} {L : Nat -> Nat} (hi : Inv l bg g) (h : Rank l g L) : ∀ (k : Nat) {x : Nat}, k < L x -> al l g (k + 1) x
 | 0, x, hx => ⟨fun e => by rw [h.unset x e] at hx; omega, trivial⟩
 | k + 1, x, hx => by
  cases hq : g.pre x with
  | none => rw [h.unset x hq] at hx; omega
  | some j =>
   obtain ⟨d, e1, _⟩ := hi.pre x j hq;have := h.pre x j d hq e1;refine ⟨by rw [hq]; simp, ?_⟩;rw [zhK hq e1];exact Rank.alive hi h k (by omega)
theorem Rank.cycle {n : Nat} {l : List Con} {bg : Nat -> Bool} {g : GS} {L : Nat -> Nat} (hl : OkC n l) (hi : Inv l bg g) (h : Rank l g L) {x : Nat} (hx : x < n) (hL : n < L x) :
  al l g n x /\ ∃ k, 0 < k /\ k <= n /\ al l g k (it l g n x) /\ it l g k (it l g n x) = it l g n x := by
 have h1 := h.alive hi n hL;rw [zf9] at h1;exact ⟨h1.1, zli hl hx h1.1 h1.2.1⟩
def Sol (l : List Con) (y : Nat -> Int) : Prop := ∀ c ∈ l, y c.a <= y c.b + c.N
theorem Sol.along {l : List Con} {bg : Nat -> Bool} {g : GS} {y : Nat -> Int} (hi : Inv l bg g) (h : Sol l y) : ∀ (k x : Nat), al l g k x -> y x <= y (it l g k x) + sm l g k x
 | 0, x, _ => by simp [it, sm]
 | k + 1, x, ha => by
  cases hq : g.pre x with
  | none => exact absurd hq ha.1
  | some j =>
   obtain ⟨d, e1, e2, _⟩ := hi.pre x j hq;have h1 := h d (List.mem_of_getElem? e1);have h2 := ha.2;rw [zhK hq e1] at h2;have := Sol.along hi h k d.b h2;rw [it, sm, zhK hq e1, zme hq e1];rw [e2] at h1;omega
theorem Sol.nocycle {l : List Con} {bg : Nat -> Bool} {g : GS} {y : Nat -> Int} (hi : Inv l bg g) (h : Sol l y) {k x : Nat} (hk : 0 < k) (ha : al l g k x) (he : it l g k x = x) : False := by
 obtain ⟨k, rfl⟩ : ∃ j, k = j + 1 := ⟨k - 1, by omega⟩;have h1 := hi.cyc k x ha he;have h2 := h.along hi (k + 1) x ha;rw [he] at h2;omega
def Fix (l : List Con) (g : GS) : Prop := ∀ c ∈ l, g.can c = false
theorem Fix.step {l : List Con} {g : GS} (h : Fix l g) {c : Con} (hc : c ∈ l) (hk : g.kn c.b = true) : g.kn c.a = true /\ g.val c.a <= g.val c.b + c.N := by
 have := h c hc;unfold GS.can at this;rw [hk] at this;cases hka : g.kn c.a with
 | false => rw [hka] at this; simp at this
 | true => rw [hka] at this; simp at this; exact ⟨rfl, this⟩
theorem Fix.sub {l l' : List Con} {bg : Nat -> Bool} {g : GS} (hi : Inv l bg g) (h : Fix l g) (hl : ∀ c, c ∈ l' -> c ∈ l) : Sub l' bg (fun x => g.kn x = true) g.val :=
 ⟨hi.beg, fun _ hc hk => h.step (hl _ hc) hk⟩
theorem Fix.one {l l' : List Con} {bg : Nat -> Bool} {g g' : GS} (hi : Inv l bg g) (h : Fix l g) (hi' : Inv l' bg g') (h' : Fix l' g') (hl : ∀ c, c ∈ l ↔ c ∈ l') (x : Nat) : g.kn x = g'.kn x /\ (g.kn x = true -> g.val x = g'.val x) := by
 have h1 := fun x => hi.low _ _ (h'.sub hi' fun c hc => (hl c).1 hc) x;have h2 := fun x => hi'.low _ _ (h.sub hi fun c hc => (hl c).2 hc) x;refine ⟨?_, fun hx => ?_⟩
 ·rw [Bool.eq_iff_iff];exact ⟨fun e => (h1 x e).1, fun e => (h2 x e).1⟩
 ·have h3 := h1 x hx;have h4 := h2 x h3.1;omega
theorem Fix.along {l : List Con} {bg : Nat -> Bool} {g : GS} (hi : Inv l bg g) (h : Fix l g) : ∀ (k x : Nat), al l g k x -> g.val x = g.val (it l g k x) + sm l g k x
 | 0, x, _ => by simp [it, sm]
 | k + 1, x, ha => by
  cases hq : g.pre x with
  | none => exact absurd hq ha.1
  | some j =>
   obtain ⟨d, e1, e2, e3, e4, e5⟩ := hi.pre x j hq;have h1 := h.step (List.mem_of_getElem? e1) e4;have h2 := ha.2;rw [zhK hq e1] at h2;have := Fix.along hi h k d.b h2;rw [it, sm, zhK hq e1, zme hq e1];rw [e2] at h1;omega
end Go.Proofs.YtepiegcjnaohjaaGreatDoor.Df
namespace Go.Proofs.YtepiegcjnaohjaaGreatDoor.Df
theorem toNat_inj {a b : Int} (ha : 0 <= a) (hb : 0 <= b) (h : a.toNat = b.toNat) : a = b := by omega
theorem zfr {g : GS} {i : Nat} {c d : Con} (hr : g.can c = true) (hd : d.b ≠ c.a) (h : (g.upd i c).can d = true) : g.can d = true /\ d.a ≠ c.a \/ g.can d = true /\ (d.a = c.a /\ g.val d.b + d.N < g.val c.b + c.N) := by
 obtain ⟨hb, hc⟩ := GS.zfH.1 hr;obtain ⟨h1, h2⟩ := GS.zfH.1 h;have hkb : g.kn d.b = true := by simpa [GS.upd, hd] using h1
 have hvb : (g.upd i c).val d.b = g.val d.b := by simp [GS.upd, hd]
 by_cases hda : d.a = c.a
 ·right;refine ⟨GS.zfH.2 ⟨hkb, ?_⟩, hda, ?_⟩
  ·rcases h2 with h2 | h2
   ·simp [GS.upd, hda] at h2
   ·rw [hvb] at h2;have : (g.upd i c).val d.a = g.val c.b + c.N := by simp [GS.upd, hda]
    rcases hc with hc | hc
    ·left; rw [hda]; exact hc
    ·right; rw [hda]; omega
  ·rcases h2 with h2 | h2
   ·simp [GS.upd, hda] at h2
   ·rw [hvb] at h2;have : (g.upd i c).val d.a = g.val c.b + c.N := by simp [GS.upd, hda]
    omega
 ·left;refine ⟨GS.zfH.2 ⟨hkb, ?_⟩, hda⟩;rcases h2 with h2 | h2
  ·left; simpa [GS.upd, hda] using h2
  ·right;rw [hvb] at h2;simpa [GS.upd, hda] using h2
def up (L : Nat -> Nat) (a r : Nat) : Nat -> Nat := fun x => if x = a then r else L x
theorem Rank.upd {l : List Con} {g : GS} {L : Nat -> Nat} {i r : Nat} {c : Con} (h : Rank l g L) (hle : ∀ x, L x <= r + 1) (hc : l[i]? = some c) (hL : r <= L c.b) : Rank l (g.upd i c) (up L c.a (r + 1)) := by
 refine ⟨fun x j d hj hd => ?_, fun x hx => ?_⟩
 ·have hmono : L d.b <= up L c.a (r + 1) d.b := by unfold up; split; exact hle _; exact Nat.le_refl _
  by_cases hxa : x = c.a
  ·have : i = j := by simpa [GS.upd, hxa] using hj
   subst this;rw [hc] at hd;cases hd;have h1 : up L c.a (r + 1) x = r + 1 := by simp [up, hxa]
   omega
  ·have hq : g.pre x = some j := by simpa [GS.upd, hxa] using hj
   have := h.pre x j d hq hd;have h1 : up L c.a (r + 1) x = L x := by simp [up, hxa]
   omega
 ·by_cases hxa : x = c.a
  ·simp [GS.upd, hxa] at hx
  ·have hq : g.pre x = none := by simpa [GS.upd, hxa] using hx
   have := h.unset x hq;simpa [up, hxa] using this
def Bd (t : Nat) (g : GS) : Prop := ∀ x, -(zjc * t) <= g.val x /\ g.val x <= zjc * t
theorem Bd.mono {t u : Nat} {g : GS} (h : Bd t g) (htu : t <= u) : Bd u g := fun x => by
 have := h x;have h2 : zjc * (t : Int) <= zjc * (u : Int) := Int.mul_le_mul_of_nonneg_left (by omega) (by decide);omega
theorem Bd.zero (bg : Nat -> Bool) : Bd 0 (GS.zero bg) := fun x => by simp [GS.zero]
theorem Bd.upd {t i : Nat} {g : GS} {c : Con} (h : Bd t g) (h1 : -zjc <= c.N) (h2 : c.N <= zjc) : Bd (t + 1) (g.upd i c) := fun x => by
 have e : zjc * ((t + 1 : Nat) : Int) = zjc * (t : Int) + zjc := by rw [Int.natCast_add, Int.mul_add]; simp
 simp only [GS.upd];split
 ·have := h c.b;omega
 ·have := h x;have : (0 : Int) <= zjc := by decide
  omega
def zcL (l : List Con) (v : Nat) : List Nat := (List.range l.length).filter fun i => match l[i]? with
 | some c => decide (c.b = v)
 | none => false
theorem zfW {l : List Con} {v i : Nat} : i ∈ zcL l v ↔ ∃ c, l[i]? = some c /\ c.b = v := by
 unfold zcL;rw [List.mem_filter, List.mem_range];constructor
 ·rintro ⟨h1, h2⟩;rw [List.getElem?_eq_getElem h1] at h2;exact ⟨_, List.getElem?_eq_getElem h1, by simpa using h2⟩
 ·rintro ⟨c, h1, h2⟩;exact ⟨(lGE.1 h1).1, by rw [h1]; simpa using h2⟩
theorem zkl (l : List Con) (v : Nat) : (zcL l v).length <= l.length := by
 have := List.length_filter_le (fun i => match l[i]? with | some c => decide (c.b = v) | none => false) (List.range l.length);simpa [zcL] using this
def zmr (l : List Con) (st : GS × List Int) (i : Nat) : GS × List Int := match l[i]? with
 | some c => if (!st.1.kn c.a || decide (st.1.val c.b + c.N < st.1.val c.a)) = true then (st.1.upd i c, st.2 ++ [c.A]) else st
 | none => st
def zif (l : List Con) (st : GS × List Int) (v : Int) : GS × List Int := (zcL l v.toNat).foldl (zmr l) st
def zeK (l : List Con) (g : GS) (todo : List Int) : GS × List Int := todo.foldl (zif l) (g, [])
structure PM (n : Nat) (l : List Con) (bg : Nat -> Bool) (r : Nat) (all rest : List Int) (v : Nat) (es : List Nat) (t : Nat) (st : GS × List Int) (L : Nat -> Nat) : Prop where
 inv : Inv l bg st.1
 rank : Rank l st.1 L
 le : ∀ x, L x <= r + 1
 all : ∀ x ∈ all, 0 <= x /\ x < n /\ st.1.kn x.toNat = true /\ r <= L x.toNat
 nx : ∀ x ∈ st.2, 0 <= x /\ x < n /\ st.1.kn x.toNat = true /\ L x.toNat = r + 1
 viol : ∀ i c, l[i]? = some c -> st.1.can c = true -> c.B ∈ rest \/ c.B ∈ st.2 \/ (c.b = v /\ i ∈ es)
 bd : Bd t st.1
 len : st.2.length <= t
theorem PM.mono {n l bg r all rest v es t u st L} (h : PM n l bg r all rest v es t st L) (htu : t <= u) : PM n l bg r all rest v es u st L :=
 { h with bd := h.bd.mono htu, len := Nat.le_trans h.len htu }
theorem PM.step {n : Nat} {l : List Con} {bg r all rest es t st L} {v i : Nat} {c : Con} (hl : OkC n l) (hc : l[i]? = some c) (hv : (v : Int) ∈ all) (hcv : c.b = v) (h : PM n l bg r all rest v (i :: es) t st L) :
  ∃ L', PM n l bg r all rest v es (t + 1) (zmr l st i) L' := by
 obtain ⟨g, nx⟩ := st;obtain ⟨hv0, hvn, hvk, hvL⟩ := h.all v hv;simp only [Int.toNat_natCast] at hvk hvL;have hcm := List.mem_of_getElem? hc;obtain ⟨ha0, han, hb0, hbn, hN1, hN2⟩ := hl c hcm;by_cases hcan : g.can c = true
 ·have e : zmr l (g, nx) i = (g.upd i c, nx ++ [c.A]) := by
   unfold zmr;rw [hc];simp only;rw [if_pos];unfold GS.can at hcan;rw [hcv, hvk] at hcan;simpa [hcv] using hcan
  rw [e];have hkn : ∀ x, g.kn x = true -> (g.upd i c).kn x = true := fun x hx => by simp [GS.upd, hx]
  have hmono : ∀ x, L x <= up L c.a (r + 1) x := fun x => by unfold up; split; exact h.le _; exact Nat.le_refl _
  refine ⟨up L c.a (r + 1), h.inv.upd hc hcan, h.rank.upd h.le hc (by rw [hcv]; exact hvL), fun x => ?_, fun x hx => ?_, fun x hx => ?_, fun j d hd hj => ?_, h.bd.upd hN1 hN2, ?_⟩
  ·unfold up; split; exact Nat.le_refl _; exact h.le x
  ·obtain ⟨h1, h2, h3, h4⟩ := h.all x hx;exact ⟨h1, h2, hkn _ h3, Nat.le_trans h4 (hmono _)⟩
  ·rcases List.mem_append.1 hx with hx | hx
   ·obtain ⟨h1, h2, h3, h4⟩ := h.nx x hx;refine ⟨h1, h2, hkn _ h3, ?_⟩;unfold up; split; rfl; exact h4
   ·simp only [List.mem_singleton] at hx;subst hx;exact ⟨ha0, han, by simp [GS.upd, Con.a], by simp [up, Con.a]⟩
  ·obtain ⟨_, _, hdb0, _⟩ := hl d (List.mem_of_getElem? hd);by_cases hda : d.b = c.a
   ·right; left;have : d.B = c.A := toNat_inj hdb0 ha0 hda;simp [this]
   ·have hold : g.can d = true := by
     rcases zfr hcan hda hj with h1 | h1
     ·exact h1.1
     ·exact h1.1
    rcases h.viol j d hd hold with h1 | h1 | ⟨h1, h2⟩
    ·exact .inl h1
    ·exact .inr (.inl (by simp [h1]))
    ·rcases List.mem_cons.1 h2 with rfl | h2
     ·rw [hc] at hd;cases hd;rcases zfr hcan hda hj with h3 | h3
      ·exact absurd rfl h3.2
      ·have := h3.2.2; omega
     ·exact .inr (.inr ⟨h1, h2⟩)
  ·have := h.len;simp only [List.length_append, List.length_singleton] at this ⊢;omega
 ·have e : zmr l (g, nx) i = (g, nx) := by
   unfold zmr;rw [hc];simp only;rw [if_neg];unfold GS.can at hcan;rw [hcv, hvk] at hcan;simpa [hcv] using hcan
  rw [e];refine ⟨L, h.inv, h.rank, h.le, h.all, h.nx, fun j d hd hj => ?_, h.bd.mono (by omega), Nat.le_trans h.len (by omega)⟩;rcases h.viol j d hd hj with h1 | h1 | ⟨h1, h2⟩
  ·exact .inl h1
  ·exact .inr (.inl h1)
  ·rcases List.mem_cons.1 h2 with rfl | h2
   ·rw [hc] at hd;cases hd;exact absurd hj hcan
   ·exact .inr (.inr ⟨h1, h2⟩)
theorem PM.next {n : Nat} {l : List Con} {bg r all rest t st L} {u : Nat} {v : Int} (hl : OkC n l) (h : PM n l bg r all (v :: rest) u [] t st L) : PM n l bg r all rest v.toNat (zcL l v.toNat) t st L := by
 refine ⟨h.inv, h.rank, h.le, h.all, h.nx, fun i c hc hj => ?_, h.bd, h.len⟩;rcases h.viol i c hc hj with h1 | h1 | h1
 ·rcases List.mem_cons.1 h1 with h1 | h1
  ·exact .inr (.inr ⟨by rw [Con.b, h1], zfW.2 ⟨c, hc, by rw [Con.b, h1]⟩⟩)
  ·exact .inl h1
 ·exact .inr (.inl h1)
 ·cases h1.2
structure PI (n : Nat) (l : List Con) (bg : Nat -> Bool) (r : Nat) (todo : List Int) (t : Nat) (g : GS) (L : Nat -> Nat) : Prop where
 inv : Inv l bg g
 rank : Rank l g L
 le : ∀ x, L x <= r
 old : ∀ x ∈ todo, 0 <= x /\ x < n /\ g.kn x.toNat = true /\ L x.toNat = r
 viol : ∀ c ∈ l, g.can c = true -> c.B ∈ todo
 bd : Bd t g
theorem PI.start {n l bg r todo t g L} (h : PI n l bg r todo t g L) : PM n l bg r todo todo 0 [] t (g, []) L where
 inv := h.inv
 rank := h.rank
 le x := Nat.le_trans (h.le x) (by omega)
 all x hx := let ⟨a, b, c, d⟩ := h.old x hx; ⟨a, b, c, by omega⟩
 nx x hx := by cases hx
 viol i c hc hj := .inl (h.viol c (List.mem_of_getElem? hc) hj)
 bd := h.bd
 len := by simp
theorem PM.fin {n l bg r all v t st L} (h : PM n l bg r all [] v [] t st L) {todo : List Int} (ht : ∀ x, x ∈ todo ↔ x ∈ st.2) : PI n l bg (r + 1) todo t st.1 L where
 inv := h.inv
 rank := h.rank
 le := h.le
 old x hx := h.nx x ((ht x).1 hx)
 viol c hc hj := by
  obtain ⟨i, hi⟩ := List.getElem?_of_mem hc;rcases h.viol i c hi hj with h1 | h1 | ⟨_, h1⟩
  ·cases h1
  ·exact (ht _).2 h1
  ·cases h1
 bd := h.bd
theorem PM.done {n l bg r all v t g L} (h : PM n l bg r all [] v [] t (g, []) L) : Fix l g := fun c hc => by
 cases hq : g.can c with
 | false => rfl
 | true =>
  obtain ⟨i, hi⟩ := List.getElem?_of_mem hc;rcases h.viol i c hi hq with h1 | h1 | ⟨_, h1⟩ <;> cases h1
def Outcome (n : Nat) (l : List Con) (bg : Nat -> Bool) (t : Nat) (g : GS) (ret : Int) : Prop :=
 Inv l bg g /\ Bd t g /\ ((ret = -1 /\ Fix l g) \/ (0 <= ret /\ ret < n /\ ∃ L, Rank l g L /\ n < L ret.toNat))
theorem PI.zero {n : Nat} {l : List Con} (hl : OkC n l) {bg : Nat -> Bool} {todo : List Int} (ht : ∀ x, x ∈ todo ↔ 0 <= x /\ x < n /\ bg x.toNat = true) : PI n l bg 0 todo 0 (GS.zero bg) (fun _ => 0) where
 inv := .zero l bg
 rank := ⟨fun _ _ _ h => by simp [GS.zero] at h, fun _ _ => rfl⟩
 le _ := Nat.le_refl _
 old x hx := let ⟨a, b, c⟩ := (ht x).1 hx; ⟨a, b, c, rfl⟩
 viol c hc hj := by
  obtain ⟨_, _, h3, h4, _⟩ := hl c hc;exact (ht _).2 ⟨h3, h4, (GS.zfH.1 hj).1⟩
 bd := .zero bg
def zse (l : List Con) (st : GS × Int) (i : Nat) : GS × Int := match l[i]? with
 | some c => if st.1.can c = true then (st.1.upd i c, c.A) else st
 | none => st
structure SM (n : Nat) (l : List Con) (bg : Nat -> Bool) (r i t : Nat) (st : GS × Int) (L : Nat -> Nat) : Prop where
 inv : Inv l bg st.1
 rank : Rank l st.1 L
 le : ∀ x, L x <= r + 1
 last : (st.2 = -1 /\ ∀ x, L x <= r) \/ (0 <= st.2 /\ st.2 < n /\ L st.2.toNat = r + 1)
 viol : ∀ j c, l[j]? = some c -> st.1.can c = true -> (j < i -> L c.b = r + 1) /\ r <= L c.b
 bd : Bd t st.1
theorem SM.step {n : Nat} {l : List Con} {bg r i t st L} {c : Con} (hl : OkC n l) (hc : l[i]? = some c) (h : SM n l bg r i t st L) : ∃ L', SM n l bg r (i + 1) (t + 1) (zse l st i) L' := by
 obtain ⟨g, last⟩ := st;obtain ⟨ha0, han, hb0, hbn, hN1, hN2⟩ := hl c (List.mem_of_getElem? hc);by_cases hcan : g.can c = true
 ·have e : zse l (g, last) i = (g.upd i c, c.A) := by
   unfold zse;rw [hc];simp [hcan]
  rw [e];have hmono : ∀ x, L x <= up L c.a (r + 1) x := fun x => by unfold up; split; exact h.le _; exact Nat.le_refl _
  refine ⟨up L c.a (r + 1), h.inv.upd hc hcan, h.rank.upd h.le hc (h.viol i c hc hcan).2, fun x => ?_, .inr ⟨ha0, han, by simp [up, Con.a]⟩, fun j d hd hj => ?_, h.bd.upd hN1 hN2⟩
  ·unfold up; split; exact Nat.le_refl _; exact h.le x
  ·by_cases hda : d.b = c.a
   ·have e2 : up L c.a (r + 1) d.b = r + 1 := by simp [up, hda]
    rw [e2];exact ⟨fun _ => rfl, by omega⟩
   ·have hold : g.can d = true := by
     rcases zfr hcan hda hj with h1 | h1
     ·exact h1.1
     ·exact h1.1
    obtain ⟨h1, h2⟩ := h.viol j d hd hold;have e2 : up L c.a (r + 1) d.b = L d.b := by simp [up, hda]
    rw [e2];refine ⟨fun hji => ?_, h2⟩;by_cases hji2 : j < i
    ·exact h1 hji2
    ·obtain rfl : j = i := by omega
     rw [hc] at hd;cases hd;rcases zfr hcan hda hj with h3 | h3
     ·exact absurd rfl h3.2
     ·have := h3.2.2; omega
 ·have e : zse l (g, last) i = (g, last) := by
   unfold zse;rw [hc];simp [hcan]
  rw [e];refine ⟨L, h.inv, h.rank, h.le, h.last, fun j d hd hj => ?_, h.bd.mono (by omega)⟩;obtain ⟨h1, h2⟩ := h.viol j d hd hj;refine ⟨fun hji => ?_, h2⟩;by_cases hji2 : j < i
  ·exact h1 hji2
  ·obtain rfl : j = i := by omega
   rw [hc] at hd;cases hd;exact absurd hj hcan
structure SI (n : Nat) (l : List Con) (bg : Nat -> Bool) (r t : Nat) (g : GS) (L : Nat -> Nat) : Prop where
 inv : Inv l bg g
 rank : Rank l g L
 le : ∀ x, L x <= r
 viol : ∀ c ∈ l, g.can c = true -> r <= L c.b
 bd : Bd t g
theorem SI.zero {n : Nat} {l : List Con} (bg : Nat -> Bool) : SI n l bg 0 0 (GS.zero bg) (fun _ => 0) :=
 ⟨.zero l bg, ⟨fun _ _ _ h => by simp [GS.zero] at h, fun _ _ => rfl⟩, fun _ => Nat.le_refl _, fun _ _ _ => Nat.le_refl _, .zero bg⟩
theorem SI.start {n l bg r t g L} (h : SI n l bg r t g L) : SM n l bg r 0 t (g, -1) L :=
 ⟨h.inv, h.rank, fun x => Nat.le_trans (h.le x) (by omega), .inl ⟨rfl, h.le⟩, fun j c hc hj => ⟨fun hh => absurd hh (by omega), h.viol c (List.mem_of_getElem? hc) hj⟩, h.bd⟩
theorem SM.fin {n l bg r t st L} (h : SM n l bg r l.length t st L) : SI n l bg (r + 1) t st.1 L :=
 ⟨h.inv, h.rank, h.le, fun c hc hj => by
  obtain ⟨i, hi⟩ := List.getElem?_of_mem hc;have := (h.viol i c hi hj).1 (lGE.1 hi).1;omega, h.bd⟩
theorem SM.out {n l bg r t st L} (h : SM n l bg r l.length t st L) (hr : n <= r) : Outcome n l bg t st.1 st.2 := by
 refine ⟨h.inv, h.bd, ?_⟩;rcases h.last with ⟨h1, h2⟩ | ⟨h1, h2, h3⟩
 ·left;refine ⟨h1, fun c hc => ?_⟩;cases hq : st.1.can c with
  | false => rfl
  | true =>
   obtain ⟨i, hi⟩ := List.getElem?_of_mem hc;have := (h.viol i c hi hq).1 (lGE.1 hi).1;have := h2 c.b;omega
 ·right;exact ⟨h1, h2, L, h.rank, by omega⟩
end Go.Proofs.YtepiegcjnaohjaaGreatDoor.Df
namespace Go.Proofs.YtepiegcjnaohjaaGreatDoor.Df
def lst (n : Nat) (f : Nat -> Int) : List Int := (List.range n).map f
theorem zbd (n : Nat) (f : Nat -> Int) : (lst n f).length = n := by simp [lst]
theorem zba (n : Nat) (f : Nat -> Int) (i : Nat) (h : i < (lst n f).length) : (lst n f)[i] = f i := by simp [lst]
theorem zde (n : Nat) (f : Nat -> Int) (i : Nat) (x : Int) : (lst n f).set i x = lst n (fun j => if j = i then x else f j) := by
 apply List.ext_getElem?;intro j;simp only [lst, List.getElem?_set, List.length_map, List.length_range, List.getElem?_map];by_cases hj : i = j
 ·subst hj;by_cases hi : i < n <;> simp [hi]
 ·rw [if_neg hj];by_cases hj2 : j < n
  ·simp [hj2, Ne.symm hj]
  ·simp [hj2]
theorem zn5 {n : Nat} {f g : Nat -> Int} (h : ∀ i, i < n -> f i = g i) : lst n f = lst n g := by
 unfold lst;exact List.map_congr_left fun i hi => h i (List.mem_range.1 hi)
theorem zn4 (n : Nat) (v : Int) : List.replicate n v = lst n fun _ => v := by
 apply List.ext_getElem?;intro j;by_cases hj : j < n <;> simp [lst, hj]
def zfG (n : Nat) : Nat -> Bool := fun x => decide (x < n)
def ztO (b : Nat) : Nat -> Bool := fun x => decide (x = b)
structure Great (n : Nat) (l : List Con) (f : Nat -> Int) : Prop where
 sol : Sol l f
 neg : ∀ x, x < n -> f x <= 0
 tight : ∀ x, x < n -> f x = 0 \/ ∃ c ∈ l, c.a = x /\ f c.b + c.N = f x
 most : ∀ y, Sol l y -> (∀ x, x < n -> y x <= 0) -> ∀ x, x < n -> y x <= f x
theorem OkC.ab {n : Nat} {l : List Con} (h : OkC n l) {c : Con} (hc : c ∈ l) : c.a < n /\ c.b < n := by
 obtain ⟨h1, h2, h3, h4, _⟩ := h c hc;simp only [Con.a, Con.b];omega
theorem zp2 {n : Nat} {l : List Con} {g : GS} (hl : OkC n l) (hi : Inv l (zfG n) g) (hf : Fix l g) : Great n l g.val where
 sol c hc := (hf.step hc (hi.beg _ (by simp [zfG, (hl.ab hc).2])).1).2
 neg x hx := (hi.beg x (by simp [zfG, hx])).2
 tight x hx := by
  have hk := (hi.beg x (by simp [zfG, hx])).1;cases hq : g.pre x with
  | none => exact .inl (hi.root x hk hq).2
  | some i =>
   obtain ⟨c, h1, h2, h3, h4, h5⟩ := hi.pre x i hq;have hm := List.mem_of_getElem? h1;have := (hf.step hm h4).2;rw [h2] at this;exact .inr ⟨c, hm, h2, by omega⟩
 most y hy hn x hx := (hi.low (fun x => x < n) y ⟨fun z hz => ⟨by simpa [zfG] using hz, hn z (by simpa [zfG] using hz)⟩, fun c hc _ => ⟨(hl.ab hc).1, hy c hc⟩⟩ x (hi.beg x (by simp [zfG, hx])).1).2
theorem Great.one {n : Nat} {l l' : List Con} {f f' : Nat -> Int} (h : Great n l f) (h' : Great n l' f') (hl : ∀ c, c ∈ l ↔ c ∈ l') : lst n f = lst n f' := by
 refine zn5 fun x hx => ?_;have h1 := h.most f' (fun c hc => h'.sol c ((hl c).1 hc)) h'.neg x hx;have h2 := h'.most f (fun c hc => h.sol c ((hl c).2 hc)) h.neg x hx;omega
theorem Outcome.unsat {n : Nat} {l : List Con} {bg t g ret} (hl : OkC n l) (h : Outcome n l bg t g ret) (hr : ¬ ret = -1) : ∀ y, ¬ Sol l y := fun y hy => by
 obtain ⟨hi, _, h1 | ⟨h1, h2, L, h3, h4⟩⟩ := h
 ·exact hr h1.1
 ·obtain ⟨_, k, h5, h6, h7, h8⟩ := h3.cycle hl hi (by omega) h4;exact hy.nocycle hi h5 h7 h8
def zhY (d : Int) (g : GS) (x : Nat) : Int := match g.pre x with
 | some i => (i : Int)
 | none => d
def pl (l : List Con) (d : Int) (g : GS) : Nat -> Nat -> List Int
 | 0, _ => []
 | k + 1, x => zhY d g x :: pl l d g k (bk l g x)
theorem zlJ (l : List Con) (d : Int) (g : GS) : ∀ k x, (pl l d g k x).length = k
 | 0, _ => rfl
 | k + 1, x => by simp [pl, zlJ l d g k]
theorem znL (l : List Con) (d : Int) (g : GS) : ∀ k x, pl l d g (k + 1) x = pl l d g k x ++ [zhY d g (it l g k x)]
 | 0, x => rfl
 | k + 1, x => by rw [pl, znL l d g k, pl, it]; rfl
def zmi (l : List Con) : Int -> List Int -> Option (Int × Int)
 | at', [] => some (0, at')
 | at', i :: r => if 0 <= i then match l[i.toNat]? with
  | some c => if c.B = at' then (zmi l c.A r).map fun p => (p.1 + c.N, p.2) else none
  | none => none
  else none
theorem zhe (l : List Con) : ∀ (a b : List Int) (u : Int) (s v : Int), zmi l u a = some (s, v) -> zmi l u (a ++ b) = (zmi l v b).map fun p => (p.1 + s, p.2)
 | [], b, u, s, v, h => by
  simp only [zmi, Option.some.injEq, Prod.mk.injEq] at h;obtain ⟨rfl, rfl⟩ := h;simp
 | i :: r, b, u, s, v, h => by
  simp only [zmi, List.cons_append] at h ⊢;split at h
  ·rename_i h0;rw [if_pos h0];split at h
   ·rename_i c hc;split at h
    ·rename_i hb;rw [if_pos hb];cases hq : zmi l c.A r with
     | none => rw [hq] at h; cases h
     | some p =>
      obtain ⟨s', v'⟩ := p;rw [hq] at h;simp only [Option.map_some, Option.some.injEq, Prod.mk.injEq] at h;obtain ⟨rfl, rfl⟩ := h;rw [zhe l r b c.A s' v' hq];cases zmi l v' b <;> simp [Int.add_assoc]
    ·cases h
   ·cases h
  ·cases h
theorem zqT {n : Nat} {l : List Con} {bg : Nat -> Bool} {g : GS} (d : Int) (hl : OkC n l) (hi : Inv l bg g) : ∀ (k x : Nat), al l g k x -> zmi l ((it l g k x : Nat) : Int) (pl l d g k x).reverse = some (sm l g k x, (x : Int))
 | 0, x, _ => by simp [pl, zmi, it, sm]
 | k + 1, x, ha => by
  cases hq : g.pre x with
  | none => exact absurd hq ha.1
  | some j =>
   obtain ⟨c, e1, e2, e3, e4, e5⟩ := hi.pre x j hq;have h2 := ha.2;rw [zhK hq e1] at h2;have ih := zqT d hl hi k c.b h2;obtain ⟨h3, h4, h5, h6, _⟩ := hl c (List.mem_of_getElem? e1);rw [pl, it, sm, zhK hq e1, zme hq e1, List.reverse_cons, zhe l _ _ _ _ _ ih];simp only [zhY, hq, zmi];rw [if_pos (by omega), Int.toNat_natCast, e1];simp only;rw [if_pos (by simp only [Con.b]; omega)];simp only [Option.map_some, Int.zero_add, Option.some.injEq, Prod.mk.injEq];exact ⟨trivial, by rw [<- e2]; simp only [Con.a]; omega⟩
theorem zqZ {l : List Con} {bg : Nat -> Bool} {g : GS} (d : Int) (hi : Inv l bg g) : ∀ (k x : Nat), al l g k x -> ∀ i ∈ pl l d g k x, 0 <= i /\ i < l.length
 | 0, x, _, i, hm => by cases hm
 | k + 1, x, ha, i, hm => by
  cases hq : g.pre x with
  | none => exact absurd hq ha.1
  | some j =>
   obtain ⟨c, e1, _⟩ := hi.pre x j hq;rcases List.mem_cons.1 hm with rfl | hm
   ·have := (lGE.1 e1).1;simp only [zhY, hq];omega
   ·exact zqZ d hi k _ ha.2 i hm
theorem zlY {P : Nat -> Prop} {k : Nat} (hk : 0 < k) (h : P k) : ∃ m, 0 < m /\ m <= k /\ P m /\ ∀ j, 0 < j -> j < m -> ¬ P j := by
 induction k using Nat.strongRecOn with
 | ind k ih =>
  by_cases hx : ∃ j, 0 < j /\ j < k /\ P j
  ·obtain ⟨j, h1, h2, h3⟩ := hx;obtain ⟨m, a, b, c, d⟩ := ih j h2 h1 h3;exact ⟨m, a, by omega, c, d⟩
  ·exact ⟨k, hk, Nat.le_refl k, h, fun j h1 h2 h3 => hx ⟨j, h1, h2, h3⟩⟩
structure CycOK (n : Nat) (l : List Con) (C : List Int) : Prop where
 pos : 1 <= C.length
 le : C.length <= n
 mem : ∀ i ∈ C, 0 <= i /\ i < l.length
 sum : ∃ s u, zmi l u C = some (s, u) /\ s < 0
theorem Outcome.circle {n : Nat} {l : List Con} {bg t g ret} (d : Int) (hl : OkC n l) (h : Outcome n l bg t g ret) (hr : ¬ ret = -1) :
  al l g n ret.toNat /\ ∃ m, 0 < m /\ m <= n /\ al l g m (it l g n ret.toNat) /\ it l g m (it l g n ret.toNat) = it l g n ret.toNat /\ (∀ j, 0 < j -> j < m -> it l g j (it l g n ret.toNat) ≠ it l g n ret.toNat) /\ CycOK n l (pl l d g m (it l g n ret.toNat)).reverse := by
 obtain ⟨hi, _, h1 | ⟨h1, h2, L, h3, h4⟩⟩ := h
 ·exact absurd h1.1 hr
 ·obtain ⟨ha, k, h5, h6, h7, h8⟩ := h3.cycle hl hi (by omega) h4;refine ⟨ha, ?_⟩;obtain ⟨m, a, b, c, e⟩ := zlY (P := fun j => it l g j (it l g n ret.toNat) = it l g n ret.toNat) h5 h8;have hal := zmb h5 h7 h8 m;refine ⟨m, a, by omega, hal, c, e, ⟨by simp [zlJ]; omega, by simp [zlJ]; omega, fun i hm => zqZ d hi m _ hal i (by simpa using hm), ?_⟩⟩;have hs := zqT d hl hi m _ hal;rw [c] at hs;refine ⟨_, _, hs, ?_⟩;obtain ⟨q, rfl⟩ : ∃ q, m = q + 1 := ⟨m - 1, by omega⟩;exact hi.cyc q _ hal c
end Go.Proofs.YtepiegcjnaohjaaGreatDoor.Df
namespace Go.Proofs.YtepiegcjnaohjaaGreatDoor.Df
theorem PM.steps {n : Nat} {l : List Con} {bg r all rest} {v : Nat} (hl : OkC n l) (hv : (v : Int) ∈ all) : ∀ (es : List Nat) {t st L}, (∀ i ∈ es, i ∈ zcL l v) -> PM n l bg r all rest v es t st L ->
  ∃ L', PM n l bg r all rest v [] (t + es.length) (es.foldl (zmr l) st) L'
 | [], t, st, L, _, h => ⟨L, h⟩
 | i :: es, t, st, L, hm, h => by
  obtain ⟨c, h1, h2⟩ := zfW.1 (hm i (by simp));obtain ⟨L1, h3⟩ := h.step hl h1 hv h2;obtain ⟨L2, h4⟩ := PM.steps hl hv es (fun j hj => hm j (by simp [hj])) h3;refine ⟨L2, ?_⟩;rw [List.length_cons, <- nAA, Nat.add_right_comm];exact h4
theorem PM.visit {n : Nat} {l : List Con} {bg r all rest u t st L} {v : Int} (hl : OkC n l) (hv : v ∈ all) (h : PM n l bg r all (v :: rest) u [] t st L) : ∃ L', PM n l bg r all rest v.toNat [] (t + l.length) (zif l st v) L' := by
 have hv0 := (h.all v hv).1;obtain ⟨L', h1⟩ := PM.steps hl (by rw [Int.toNat_of_nonneg hv0]; exact hv) (zcL l v.toNat) (fun _ hi => hi) (h.next hl);exact ⟨L', h1.mono (by have := zkl l v.toNat; omega)⟩
theorem PM.zq7 {n : Nat} {l : List Con} {bg r all} (hl : OkC n l) : ∀ (rest : List Int) {u t st L}, (∀ x ∈ rest, x ∈ all) -> PM n l bg r all rest u [] t st L -> ∃ L' u', PM n l bg r all [] u' [] (t + rest.length * l.length) (rest.foldl (zif l) st) L'
 | [], u, t, st, L, _, h => ⟨L, u, by simpa using h⟩
 | v :: rest, u, t, st, L, hm, h => by
  obtain ⟨L1, h1⟩ := h.visit hl (hm v (by simp));obtain ⟨L2, u2, h2⟩ := PM.zq7 hl rest (fun x hx => hm x (by simp [hx])) h1;refine ⟨L2, u2, ?_⟩;rw [List.length_cons, Nat.succ_mul, Nat.add_comm (rest.length * l.length), <- nAA];exact h2
theorem PI.round {n : Nat} {l : List Con} {bg r todo t g L} (hl : OkC n l) (h : PI n l bg r todo t g L) : ∃ L' u, PM n l bg r todo [] u [] (t + todo.length * l.length) (zeK l g todo) L' :=
 PM.zq7 hl todo (fun _ hx => hx) h.start
def zpk (nxt : List Int -> List Int) (l : List Con) : Nat -> GS -> List Int -> GS × Int
 | 0, g, todo => (g, todo.headD (-1))
 | f + 1, g, todo => if (zeK l g todo).2 = [] then ((zeK l g todo).1, -1) else zpk nxt l f (zeK l g todo).1 (nxt (zeK l g todo).2)
theorem zlI {n : Nat} {l : List Con} {bg} {nxt : List Int -> List Int} (hl : OkC n l) (hn : ∀ z x, x ∈ nxt z ↔ x ∈ z) (hd : ∀ z, (∀ x ∈ z, 0 <= x /\ x < (n : Int)) -> (nxt z).length <= n) :
  ∀ (f r : Nat) {todo t g L}, PI n l bg r todo t g L -> todo.length <= n -> (f = 0 -> todo ≠ []) -> n < r + f -> Outcome n l bg (t + f * (n * l.length)) (zpk nxt l f g todo).1 (zpk nxt l f g todo).2
 | 0, r, todo, t, g, L, h, hlen, h0, hr => by
  cases todo with
  | nil => exact absurd rfl (h0 rfl)
  | cons v todo =>
   obtain ⟨h1, h2, h3, h4⟩ := h.old v (by simp);rw [zpk];refine ⟨h.inv, h.bd.mono (by omega), .inr ⟨h1, h2, L, h.rank, ?_⟩⟩;show n < L v.toNat;omega
 | f + 1, r, todo, t, g, L, h, hlen, h0, hr => by
  obtain ⟨L', u, h1⟩ := h.round hl;have hk : t + todo.length * l.length <= t + n * l.length := Nat.add_le_add_left (Nat.mul_le_mul_right _ hlen) t;have h2 := h1.mono hk;rw [zpk];by_cases he : (zeK l g todo).2 = []
  ·rw [if_pos he];have e2 : zeK l g todo = ((zeK l g todo).1, []) := by rw [<- he]
   have h3 : PM n l bg r todo [] u [] (t + n * l.length) ((zeK l g todo).1, []) L' := by rw [<- e2]; exact h2
   exact ⟨h3.inv, h3.bd.mono (by rw [Nat.succ_mul]; omega), .inl ⟨rfl, h3.done⟩⟩
  ·rw [if_neg he];have h3 := h2.fin (todo := nxt (zeK l g todo).2) (fun x => hn _ x);have h4 := zlI hl hn hd f (r + 1) h3 (hd _ fun x hx => let ⟨a, b, _⟩ := h2.nx x hx; ⟨a, b⟩) (fun _ e => by
    obtain ⟨x, hx⟩ := List.exists_mem_of_ne_nil _ he;have := (hn _ x).2 hx;rw [e] at this;cases this) (by omega)
   rw [Nat.succ_mul, Nat.add_comm (f * _), <- nAA];exact h4
theorem SM.steps {n : Nat} {l : List Con} {bg r t g L} (hl : OkC n l) (h : SI n l bg r t g L) : ∀ i, i <= l.length -> ∃ L', SM n l bg r i (t + i) ((List.range i).foldl (zse l) (g, -1)) L'
 | 0, _ => ⟨L, h.start⟩
 | i + 1, hi => by
  obtain ⟨L', h1⟩ := SM.steps hl h i (by omega);obtain ⟨L2, h2⟩ := h1.step hl (List.getElem?_eq_getElem (by omega));refine ⟨L2, ?_⟩;rw [List.range_succ, List.foldl_append];exact h2
end Go.Proofs.YtepiegcjnaohjaaGreatDoor.Df
namespace Go.Proofs.YtepiegcjnaohjaaGreatDoor.Df
def okB (n : Int) (c : Con) : Bool := decide (0 <= c.A) && decide (0 <= c.B) && decide (c.A < n) && decide (c.B < n) && decide (-zjc <= c.N) && decide (c.N <= zjc)
def rightL (l : List Con) (n : Int) : Bool := decide (0 <= n) && decide (n <= 200) && decide (l.length <= 2000) && l.all (okB n)
theorem zgh {l : List Con} {n : Int} (h : rightL l n = true) : n = (n.toNat : Int) /\ n.toNat <= 200 /\ l.length <= 2000 /\ OkC n.toNat l := by
 simp only [rightL, Bool.and_eq_true, decide_eq_true_eq, List.all_eq_true] at h;obtain ⟨⟨⟨h1, h2⟩, h3⟩, h4⟩ := h;refine ⟨by omega, by omega, h3, fun c hc => ?_⟩;have := h4 c hc;simp only [okB, Bool.and_eq_true, decide_eq_true_eq] at this;omega
def bnd (n k : Nat) : Int := zjc * (((n + 1) * (n * k) : Nat) : Int)
def SolveSpec (l : List Con) (n : Int) (V C : List Int) (E : Int) : Prop :=
 (rightL l n = false /\ V = [] /\ C = [] /\ E = 1) \/
 (rightL l n = true /\ ((∃ f, Great n.toNat l f /\ (∀ x, -bnd n.toNat l.length <= f x /\ f x <= bnd n.toNat l.length) /\ V = lst n.toNat f /\ C = [] /\ E = 0) \/
   ((∀ y, ¬ Sol l y) /\ V = [] /\ E = 23 /\ CycOK n.toNat l C)))
theorem SolveSpec.one {l l' : List Con} {n : Int} {V C V' C' : List Int} {E E' : Int} (h : SolveSpec l n V C E) (h' : SolveSpec l' n V' C' E') (hl : ∀ c, c ∈ l ↔ c ∈ l') (hr : rightL l n = rightL l' n) : E = E' /\ V = V' := by
 rcases h with ⟨a1, rfl, _, rfl⟩ | ⟨a1, h⟩ <;> rcases h' with ⟨b1, rfl, _, rfl⟩ | ⟨b1, h'⟩
 ·exact ⟨rfl, rfl⟩
 ·rw [hr, b1] at a1; cases a1
 ·rw [hr, b1] at a1; cases a1
 ·rcases h with ⟨f, g1, _, rfl, _, rfl⟩ | ⟨g1, rfl, rfl, _⟩ <;> rcases h' with ⟨f', g1', _, rfl, _, rfl⟩ | ⟨g1', rfl, rfl, _⟩
  ·exact ⟨rfl, g1.one g1' hl⟩
  ·exact absurd (fun c hc => g1.sol c ((hl c).2 hc)) (g1' f)
  ·exact absurd (fun c hc => g1'.sol c ((hl c).1 hc)) (g1 f')
  ·exact ⟨rfl, rfl⟩
theorem SolveSpec.ok {l : List Con} {n : Int} {V C : List Int} {E : Int} (h : SolveSpec l n V C E) (hr : rightL l n = true) : (E = 0 ↔ ∃ y, Sol l y) /\ (E = 0 \/ E = 23) := by
 rcases h with ⟨h1, _⟩ | ⟨_, ⟨f, g, _, _, _, rfl⟩ | ⟨g, _, rfl, _⟩⟩
 ·rw [hr] at h1; cases h1
 ·exact ⟨⟨fun _ => ⟨f, g.sol⟩, fun _ => rfl⟩, .inl rfl⟩
 ·exact ⟨⟨fun e => absurd e (by decide), fun ⟨y, hy⟩ => absurd hy (g y)⟩, .inr rfl⟩
def MostSpec (l : List Con) (n a b M : Int) (C : List Int) (E : Int) : Prop :=
 ((rightL l n && (decide (0 <= a) && decide (a < n) && (decide (0 <= b) && decide (b < n)))) = false /\ M = 0 /\ C = [] /\ E = 1) \/
 ((rightL l n && (decide (0 <= a) && decide (a < n) && (decide (0 <= b) && decide (b < n)))) = true /\ (((∀ y, ¬ Sol l y) /\ M = 0 /\ C = [] /\ E = 23) \/
   ((∃ y, Sol l y) /\ ∃ g, Inv l (ztO b.toNat) g /\ Fix l g /\ (∀ x, -bnd n.toNat l.length <= g.val x /\ g.val x <= bnd n.toNat l.length) /\
     ((g.kn a.toNat = false /\ M = 0 /\ C = [] /\ E = 4) \/ (g.kn a.toNat = true /\ M = g.val a.toNat /\ E = 0 /\ C.length < n.toNat /\ zmi l b C = some (M, a))))))
theorem MostSpec.one {l : List Con} {n a b M M' : Int} {C C' : List Int} {E E' : Int} (h : MostSpec l n a b M C E) (h' : MostSpec l n a b M' C' E') : E = E' /\ M = M' := by
 rcases h with ⟨a1, rfl, _, rfl⟩ | ⟨a1, h⟩ <;> rcases h' with ⟨b1, rfl, _, rfl⟩ | ⟨b1, h'⟩
 ·exact ⟨rfl, rfl⟩
 ·rw [b1] at a1; cases a1
 ·rw [b1] at a1; cases a1
 ·rcases h with ⟨g1, rfl, _, rfl⟩ | ⟨⟨y, hy⟩, g, hi, hf, _, h⟩ <;> rcases h' with ⟨g1', rfl, _, rfl⟩ | ⟨⟨y', hy'⟩, g', hi', hf', _, h'⟩
  ·exact ⟨rfl, rfl⟩
  ·exact absurd hy' (g1 y')
  ·exact absurd hy (g1' y)
  ·obtain ⟨e1, e2⟩ := hf.one hi hi' hf' (fun _ => Iff.rfl) a.toNat;rcases h with ⟨k1, rfl, _, rfl⟩ | ⟨k1, rfl, rfl, _⟩ <;> rcases h' with ⟨k1', rfl, _, rfl⟩ | ⟨k1', rfl, rfl, _⟩
   ·exact ⟨rfl, rfl⟩
   ·rw [e1, k1'] at k1; cases k1
   ·rw [e1, k1'] at k1; cases k1
   ·exact ⟨rfl, e2 k1⟩
theorem zpw {n t : Nat} {l : List Con} {g : GS} (hr : rightL l (n : Int) = true) (h : Outcome n l (zfG n) t g (-1)) (ht : t <= (n + 1) * (n * l.length)) : SolveSpec l n (lst n g.val) [] 0 := by
 obtain ⟨_, _, _, hl⟩ := zgh hr;simp only [Int.toNat_natCast] at hl;obtain ⟨hi, hb, h1 | ⟨h1, _⟩⟩ := h
 ·refine .inr ⟨hr, .inl ⟨g.val, zp2 hl hi h1.2, fun x => ?_, rfl, rfl, rfl⟩⟩;have := (hb.mono ht) x;unfold bnd;simp only [Int.toNat_natCast];omega
 ·omega
theorem znz {n t : Nat} {l : List Con} {g : GS} {ret : Int} {C : List Int} (hr : rightL l (n : Int) = true) (h : Outcome n l (zfG n) t g ret) (hret : ¬ ret = -1) (hC : CycOK n l C) : SolveSpec l n [] C 23 := by
 obtain ⟨_, _, _, hl⟩ := zgh hr;simp only [Int.toNat_natCast] at hl;exact .inr ⟨hr, .inr ⟨h.unsat hl hret, rfl, rfl, hC⟩⟩
theorem znA {n : Int} {l : List Con} (hr : rightL l n = false) : SolveSpec l n [] [] 1 := .inl ⟨hr, rfl, rfl, rfl⟩
end Go.Proofs.YtepiegcjnaohjaaGreatDoor.Df
namespace Go.Proofs.YtepiegcjnaohjaaGreatDoor.Df
open Go Go.VL
def znC (v : Int) : Bool := decide (-1152921504606846976 <= v) && decide (v <= 1152921504606846976)
end Go.Proofs.YtepiegcjnaohjaaGreatDoor.Df
namespace Go.Proofs.YtepiegcjnaohjaaGreatDoor.Df
open Go Go.VL
end Go.Proofs.YtepiegcjnaohjaaGreatDoor.Df
namespace Go.Proofs.YtepiegcjnaohjaaGreatDoor.Df
open Go Go.VL
theorem zaH (l : List Int) : (zbs l).length = l.length := by simp [zbs]
theorem zaW (l : List Int) (i : Nat) (h : i < (zbs l).length) : (zbs l)[i] = [D.u (.int .i64 (l[i]'(by simpa [zbs] using h)))] := by simp [zbs]
theorem zcB (l : List Int) (i : Nat) (z : Int) : (zbs l).set i [D.u (.int .i64 z)] = zbs (l.set i z) := by simp [zbs, List.map_set]
theorem zd2 (l : List Int) : zcg (zbs l) = some (l.map fun z => [U.int .i64 z]) := by rw [<- zkf]; simp
theorem zpY (n : Nat) (z : Int) : List.replicate n [D.u (.int .i64 z)] = zbs (List.replicate n z) := by simp [zbs]
theorem zav (l : List Int) : zaX (zbs l) := by
 induction l with
 | nil => simp [zbs, zaX]
 | cons a l ih => simp only [zbs] at ih; simp [zbs, zaX, zbR, ih]
theorem zao (n : Nat) (l : List Int) : (∀ x ∈ zbs l, ∀ y ∈ x, D.under n y = true) ↔ True := by simp [zbs, D.under]
def zdq (l : List Bool) : List (List D) := l.map fun b => [D.u (.bool b)]
theorem zbl (l : List Bool) : (zdq l).length = l.length := by simp [zdq]
theorem za2 (l : List Bool) (i : Nat) (h : i < (zdq l).length) : (zdq l)[i] = [D.u (.bool (l[i]'(by simpa [zdq] using h)))] := by simp [zdq]
theorem zbQ (l : List Bool) (i : Nat) (b : Bool) : (zdq l).set i [D.u (.bool b)] = zdq (l.set i b) := by simp [zdq, List.map_set]
theorem zoY (n : Nat) (b : Bool) : List.replicate n [D.u (.bool b)] = zdq (List.replicate n b) := by simp [zdq]
theorem zaw (l : List Bool) : zaX (zdq l) := by
 induction l with
 | nil => simp [zdq, zaX]
 | cons a l ih => simp only [zdq] at ih; simp [zdq, zaX, zbR, ih]
theorem zau (n : Nat) (l : List Bool) : (∀ x ∈ zdq l, ∀ y ∈ x, D.under n y = true) ↔ True := by
 refine ⟨fun _ => trivial, fun _ x hx y hy => ?_⟩;obtain ⟨b, _, rfl⟩ := List.mem_map.1 hx;simp at hy;subst hy;simp [D.under]
def bst (n : Nat) (f : Nat -> Bool) : List Bool := (List.range n).map f
theorem zb1 (n : Nat) (f : Nat -> Bool) : (bst n f).length = n := by simp [bst]
theorem zbD (n : Nat) (f : Nat -> Bool) (i : Nat) (h : i < (bst n f).length) : (bst n f)[i] = f i := by simp [bst]
theorem zcV (n : Nat) (f : Nat -> Bool) (i : Nat) (x : Bool) : (bst n f).set i x = bst n (fun j => if j = i then x else f j) := by
 apply List.ext_getElem?;intro j;simp only [bst, List.getElem?_set, List.length_map, List.length_range, List.getElem?_map];by_cases hj : i = j
 ·subst hj;by_cases hi : i < n <;> simp [hi]
 ·rw [if_neg hj];by_cases hj2 : j < n
  ·simp [hj2, Ne.symm hj]
  ·simp [hj2]
theorem zrM (n : Nat) (b : Bool) : List.replicate n b = bst n fun _ => b := by
 apply List.ext_getElem?;intro j;by_cases hj : j < n <;> simp [bst, hj]
theorem zre (g : GS) (i : Nat) (c : Con) (n : Nat) : lst n (fun j => if j = c.a then g.val c.b + c.N else g.val j) = lst n (g.upd i c).val := rfl
theorem zsl (g : GS) (i : Nat) (c : Con) (n : Nat) : bst n (fun j => decide (j = c.a) || g.kn j) = bst n (g.upd i c).kn := by
 unfold bst;refine List.map_congr_left fun x _ => ?_;simp only [GS.upd];by_cases h : x = c.a <;> simp [h]
theorem zrf (d : Int) (g : GS) (i : Nat) (c : Con) (n : Nat) : lst n (fun j => if j = c.a then (i : Int) else zhY d g j) = lst n (zhY d (g.upd i c)) := by
 refine zn5 fun x _ => ?_;simp only [zhY, GS.upd];by_cases h : x = c.a
 ·simp [h]
 ·simp [h]
theorem Bd.small {t : Nat} {g : GS} (h : Bd t g) (ht : t <= 4000000) (x : Nat) : -4398046511104000000 <= g.val x /\ g.val x <= 4398046511104000000 := by
 have h1 := h x;have h2 : zjc * (t : Int) <= zjc * 4000000 := Int.mul_le_mul_of_nonneg_left (by omega) (by decide);simp only [zjc] at h1 h2;omega
end Go.Proofs.YtepiegcjnaohjaaGreatDoor.Df
namespace Go.Proofs.YtepiegcjnaohjaaGreatDoor.Df
open Go Go.VL
theorem zdU (l : List Int) : zh2 1 (zbs l) := by simp [zbs]
theorem zot (l : List Con) (g : GS) (k x : Nat) : it l g (k + 1) x = bk l g (it l g k x) := ziz l g k 1 x
theorem zpm (n : Nat) (bg : Nat -> Bool) : List.replicate n (0 : Int) = lst n (GS.zero bg).val := by rw [zn4]; rfl
theorem zo3 {n : Nat} {l : List Con} {bg : Nat -> Bool} {g : GS} (d : Int) (hl : OkC n l) (hi : Inv l bg g) {x : Nat} (hx : x < n) (hp : g.pre x ≠ none) : ∃ (i : Nat) (c : Con), zhY d g x = (i : Int) /\ l[i]? = some c /\ c.B = (bk l g x : Nat) /\ i < l.length := by
 cases hq : g.pre x with
 | none => exact absurd hq hp
 | some i =>
  obtain ⟨c, h1, _⟩ := hi.pre x i hq;obtain ⟨_, _, h3, _⟩ := hl c (List.mem_of_getElem? h1);refine ⟨i, c, by simp [zhY, hq], h1, ?_, (lGE.1 h1).1⟩;rw [zhK hq h1];simp only [Con.b];omega
end Go.Proofs.YtepiegcjnaohjaaGreatDoor.Df
namespace Go.VL
open Go Go.Proofs
theorem Ret.ztQ {P : Program} {f : FuncId} {ds : List D} {t nx : Nat} {zs : List Int} (O : List (Nat × Ob))
  (h : ∀ (k : Kr) (own : Nat -> Prop) (w : World) (vs : Array Value), Sat k own O w -> RepL k ds vs -> Calls P f vs w fun e w' => ∃ v, e = .returned v /\ w'.ownsRow w.heap.size t 1 v zs.length (zs.map (Value.int .i64)) /\ RowKit.Below w.heap.size w w') :
  Ret P f ds O nx fun d obs nx' => d = .vec nx zs.length /\ obs = (nx, .vec t 1 (zbs zs)) :: O /\ nx' = nx + 1 := by
 intro k own w vs hsat hhdr hown hrep;refine (h k own w vs hsat hrep).mono ?_;rintro e w' ⟨v, rfl, hrow, hb⟩;obtain ⟨hh, hhv, hge⟩ : ∃ h : Option Nat × Nat, v = zaU h zs.length /\ ∀ b, h.1 = some b -> w.heap.size <= b := by
  rcases hrow.2 with ⟨rfl, hn⟩ | ⟨g, cap, cur, rfl, hg, _⟩
  ·exact ⟨(none, 0), by simp [zaU, hn], fun b e => by cases e⟩
  ·exact ⟨(some g, cap), rfl, fun b e => by cases e; exact hg⟩
 subst hhv;have hk0 : k.hdr nx = none := hhdr nx (Nat.le_refl _);have hmem : ∀ b, w.heap.size <= b -> ∀ o, k.mem b o = none := fun b hb o => by
  cases hm : k.mem b o with
  | none => rfl
  | some x => have := hsat.memLt hm; omega
 have hold : ∀ b, b < w.heap.size -> w'.heap[b]? = w.heap[b]? := hb.block;have hblk : ∀ b, Blk k O b -> b < w.heap.size := fun b hb => hsat.lt hb;have hsat2 : Sat (k.add nx hh) own ((nx, .vec t 1 (zbs zs)) :: O) w' := by
  refine Sat.add hsat hk0 (fun b e => ⟨hown b (hge b e), hmem b (hge b e), fun hB => by have := hblk b hB; have := hge b e; omega⟩) (fun b hbb => ?_) ?_
  ·rcases hbb with hB | ⟨o, x, hx⟩
   ·exact hold b (hblk b hB)
   ·exact hold b (hsat.memLt hx)
  ·have hl : (zbs zs).length = zs.length := by simp [zbs]
   refine ⟨zs.map (Value.int .i64), ?_, Nat.one_pos, fun r hr => ?_, fun i r hi q d hq => ?_⟩
   ·rw [hl];refine ⟨hrow.1, ?_⟩;rcases hrow.2 with h | ⟨g, cap, cur, h1, _, h2⟩
    ·exact .inl h
    ·exact .inr ⟨g, cap, cur, h1, Nat.zero_le _, h2⟩
   ·obtain ⟨z, _, rfl⟩ := List.mem_map.1 hr;rfl
   ·simp only [zbs, List.getElem?_map, Option.map_eq_some_iff] at hi;obtain ⟨z, hz', rfl⟩ := hi
    match q, hq with
    | 0, hq =>
     cases hq;have h3 : i < zs.length := (lGE.1 hz').1;have h4 : zs[i] = z := (lGE.1 hz').2;have : (zs.map (Value.int .i64)).getD (i * 1 + 0) undef = .int .i64 z := by simp [h3, h4]
     rw [this];exact ⟨rfl, .u _ _ (.int _ _)⟩
 refine ⟨_, .vec nx zs.length, _, nx + 1, k.add nx hh, rfl, ?_, hsat2, fun i hi => ?_, by omega, .vec nx _ hh (by simp [Kr.add]), rfl, rfl, rfl⟩
 ·exact ⟨Kr.zga hk0, fun i hi => hhdr i hi, fun b o x hx => .inl hx, hown, hb.os, hb.tape, hb.output, hb.size, fun b hnb => hold b (by
   rcases Nat.lt_or_ge b w.heap.size with h | h
   ·exact h
   ·exact absurd (hown b h) hnb)⟩
 ·simp only [Kr.add];rw [if_neg (by omega)];exact hhdr i (by omega)
end Go.VL
namespace Go.Proofs.YtepiegcjnaohjaaGreatDoor.Df
open Go Go.VL
def zcY (l : List Con) (k v : Nat) : List Nat := (List.range k).filter fun i => match l[i]? with
 | some c => decide (c.b = v)
 | none => false
theorem ziF (l : List Con) (v : Nat) : zcY l l.length v = zcL l v := rfl
theorem zeC {l : List Con} {k : Nat} {c : Con} (h : l[k]? = some c) (v : Nat) : zcY l (k + 1) v = if v = c.b then zcY l k v ++ [k] else zcY l k v := by
 unfold zcY;rw [List.range_succ, List.filter_append];by_cases hv : v = c.b
 ·rw [if_pos hv];simp [h, hv]
 ·rw [if_neg hv];have : ¬ c.b = v := fun e => hv e.symm;simp [h, this]
theorem zm1 (l : List Con) (k v : Nat) : (zcY l k v).length <= k := by
 have := List.length_filter_le (fun i => match l[i]? with | some c => decide (c.b = v) | none => false) (List.range k);simpa [zcY] using this
abbrev zgN (l : List Nat) : List Int := l.map Int.ofNat
def zkb (l : List Con) (m k : Nat) : List Nat := (List.range m).map fun v => (zcY l k v).length
def zlX (l : List Con) (m k : Nat) : List Ob := (List.range m).map fun v => .vec 3 1 (zbs (zgN (zcY l k v)))
theorem zfg (l : List Con) (m k : Nat) : (zkb l m k).length = m := by simp [zkb]
theorem zf1 (l : List Con) (m k : Nat) : (zlX l m k).length = m := by simp [zlX]
theorem zoi (l : List Con) (m : Nat) : List.replicate m 0 = zkb l m 0 := by
 apply List.ext_getElem?;intro j;by_cases hj : j < m <;> simp [zkb, zcY, hj]
theorem zoI (l : List Con) (m : Nat) : List.replicate m (Ob.vec 3 1 []) = zlX l m 0 := by
 apply List.ext_getElem?;intro j;by_cases hj : j < m <;> simp [zlX, zcY, hj, zbs]
theorem zpN {l : List Con} {m k : Nat} {c : Con} (h : l[k]? = some c) : (zkb l m k).set c.b ((zcY l k c.b).length + 1) = zkb l m (k + 1) := by
 apply List.ext_getElem?;intro j;simp only [zkb, List.getElem?_set, List.length_map, List.length_range, List.getElem?_map];by_cases hj : c.b = j
 ·subst hj;by_cases hm : c.b < m
  ·simp [hm, zeC h]
  ·simp [hm]
 ·rw [if_neg hj];by_cases hm : j < m
  ·simp [hm, zeC h, Ne.symm hj]
  ·simp [hm]
theorem zp6 {l : List Con} {m k : Nat} {c : Con} (h : l[k]? = some c) : (zlX l m k).set c.b (.vec 3 1 (zbs (zgN (zcY l k c.b ++ [k])))) = zlX l m (k + 1) := by
 apply List.ext_getElem?;intro j;simp only [zlX, List.getElem?_set, List.length_map, List.length_range, List.getElem?_map];by_cases hj : c.b = j
 ·subst hj;by_cases hm : c.b < m
  ·simp [hm, zeC h]
  ·simp [hm]
 ·rw [if_neg hj];by_cases hm : j < m
  ·simp [hm, zeC h, Ne.symm hj]
  ·simp [hm]
theorem zp7 (l : List Con) {m k v : Nat} (h : v < m) : (zlX l m k)[v]? = some (.vec 3 1 (zbs (zgN (zcY l k v)))) := by simp [zlX, h]
theorem zpO (l : List Con) {m k v : Nat} (h : v < m) : (zkb l m k)[v]? = some (zcY l k v).length := by simp [zkb, h]
theorem zf0 (l : List Con) (m k : Nat) : famPure (zlX l m k) := fun o ho => by
 obtain ⟨v, _, rfl⟩ := List.mem_map.1 ho;exact ⟨_, _, _, rfl, zav _⟩
end Go.Proofs.YtepiegcjnaohjaaGreatDoor.Df
namespace Go.Proofs.YtepiegcjnaohjaaGreatDoor.Df
open Go Go.VL
end Go.Proofs.YtepiegcjnaohjaaGreatDoor.Df
namespace Go.Proofs.YtepiegcjnaohjaaGreatDoor
open Go Go.VL
abbrev zop : List (String × DataW Unit) := [("stokvel/lex.signs", Rows.laid_stokvel_lex_signs)]
theorem zqc (os : Os) (args : Array Value) : laidMetH Tryz.prog zop ((World.doorLaid Tryz.prog 400 os).forCall (fun _ _ => 0) ⟨#[], args, []⟩).memory :=
 laidMetH_of_parts3 (fuel := 8) (laidMet_of_run' 8 (by kernel_rfl) (by kernel_rfl)) (by kernel_rfl) (by kernel_rfl)
theorem zry {P : Program} {w : World} {n : String} {g : Nat} {cs : Array Value} (hg : P.globalNamed n = some g) (hv : w.var? P n = some cs) :
  (∀ j, j < cs.toList.length -> VL.look w g j = some (.val (cs.toList.getD j undef))) /\ VL.look w g cs.toList.length = some .fin := by
 unfold World.var? at hv;rw [hg, Option.bind_some] at hv;split at hv
 ·rename_i cs0 t fr hh;cases hv;refine ⟨fun j hj => zdS ?_, ?_⟩
  ·have hj' : j < cs.size := by simpa using hj
   simp [World.cell?, hh, hj', List.getD]
  ·have := zpJ hh;simpa using this
 ·cases hv
theorem zri {P : Program} {w : World} {n : String} {g : Nat} {t e : TypeId} {cs : Array Value} {L : List (List UInt8)} {fuel : Nat} {H : Type} {enc : TypeId × Value -> H} {base : Nat} {spare : Nat -> Bool} {held : Bool} {q : List MemPlace}
  (hg : P.globalNamed n = some g) (hv : w.var? P n = some cs) (ht : P.underlying t = some (.array L.length e)) (he : P.underlying e = some .string) (hc : P.cellsOf e = 1) (hct : P.cellsOf t = L.length)
  (hd : DataW.trod enc P w base spare held fuel t cs.toList = some (.agg (L.map fun b => .lit (.string b)), q)) : cs.toList = L.map fun b => .string ⟨b.toArray⟩ := by
 obtain ⟨xs, m1, rfl, hx1, hlen, hn3, hel⟩ := DataW.trod_array ht hd;have hcell := zju hg hv ht he hc hd;apply List.ext_getElem?;intro j;cases hb : L[j]? with
 | none =>
  have := List.getElem?_eq_none_iff.1 hb;rw [List.getElem?_eq_none (by omega), List.getElem?_map, hb]; rfl
 | some b =>
  have h := hcell j b hb;rw [World.var?_cell hg hv j] at h;rw [List.getElem?_map, hb, Array.getElem?_toList, h]; rfl
def zsq : List (List UInt8) := [[61, 61], [59], [44], [61], [60], [43], [45], [42], [47], [40], [41]]
theorem zoD (W : World) (h : laidMetH Tryz.prog zop W) : GlobIn (zid W) := by
 rw [MakeChecks.laidMetH_plain _ _ _ (by kernel_rfl)] at h;obtain ⟨ps, ⟨gd, td, cd, fd, pd, qd, hgd, htd, hvd, hdd, _⟩, _⟩ := h;obtain rfl : gd = 1 := Option.some.inj (hgd.symm.trans (by kernel_rfl));obtain rfl : td = 291 := Option.some.inj (htd.symm.trans (by kernel_rfl));have ed := zri (q := pd) (L := zsq) hgd hvd (by kernel_rfl) (e := 9) (by kernel_rfl) (by kernel_rfl) (by kernel_rfl) (hdd.trans (by kernel_rfl));have fd := zry hgd hvd;rw [ed] at fd;intro p hp;unfold globs at hp;simp only [List.mem_cons, List.not_mem_nil, or_false] at hp;subst hp;exact fd
end Go.Proofs.YtepiegcjnaohjaaGreatDoor
namespace Go.Proofs.YtepiegcjnaohjaaGreatDoor.Df
open Go Go.VL
attribute [local simp] zdf zcf evPure opd uOf zaI St.put St.at getK binD binI binS binB nilD aggD zgQ zhI lookD lookR zcE Go.VL.nextD zcI zhV zhU zfX zb8 mkV zbo zbh zbf zbe zda zbb zbx zbJ mapEff zdm zfI Key.kk shiftI arith unD convD zdP loadD cellsAt fieldAddrD fieldD indexAddrD indexD sliceD cutD lenD minmaxD nilCheckD buildD fillD zb3 zdi zeX setAll zc1 zeI zcD zg3 zcy St.add zaO zbU rowsOf zdJ zcJ zam zac zaa zbm zcS zaN entry zbH zbL valD zcb zcp zgK zdr zds zcc zbN zaz za1 zbn delAll effD St.effS zc7 zbi za3 zc8 zbj za5 zcn za4 zaT zco zc4 zbM zcl zbw zcj zck zaY mkD zbq zbG zb0 zaz zcC D.ids Op.operands Call.operands zby makeIfD makeFuncD typeAssertD zhG zdG zdH zhb zcG IntKind.bits zcg zaS List.take_of_length_le List.range_succ
attribute [local irreducible] V G H HD HD2 zan Eff CallP CallV EndOK Fun Ret FinOK LoopI LoopW EndW
theorem zdL {α : Type} {l : List α} {i : Nat} {a : α} (hx : l[i]? = some a) : l.take (i + 1) = l.take i ++ [a] := by
 obtain ⟨hi, rfl⟩ := lGE.1 hx;rw [List.take_succ_eq_append_getElem hi]
def zmY (n : Int) : D := .u (.int .i64 n)
def ints (l : List Int) : U := .sl (l.map fun n => [.int .i64 n])
def zsH (c : Con) : D := .u (.agg [.int .i64 c.A, .int .i64 c.B, .int .i64 c.N])
def consU (l : List Con) : U := .sl (l.map fun c => [.int .i64 c.A, .int .i64 c.B, .int .i64 c.N])
def zfj {α : Type} (p : α -> Bool) : List α -> Int -> Int
 | [], _ => -1
 | x :: l, i => if p x = true then i else zfj p l (i + 1)
theorem ze2 {α : Type} {p : α -> Bool} {l : List α} {i : Nat} {x : α} {k : Int} (h : ∀ c ∈ l.take i, p c = false) (hx : l[i]? = some x) (hp : p x = true) : zfj p l k = k + i := by
 induction l generalizing i k with
 | nil => simp at hx
 | cons s l ih =>
  cases i with
  | zero => simp at hx; simp [zfj, hx, hp]
  | succ i =>
   rw [zfj, if_neg (by rw [h s (by simp)]; simp), ih (i := i) (fun c hc => h c (by simp [hc])) (by simpa using hx)];omega
theorem zdA {α : Type} {p : α -> Bool} {l : List α} {k : Int} (h : ∀ c ∈ l, p c = false) : zfj p l k = -1 := by
 induction l generalizing k with
 | nil => rfl
 | cons s l ih => rw [zfj, if_neg (by rw [h s (by simp)]; simp), ih fun c hc => h c (by simp [hc])]
theorem zeB {α : Type} (p : α -> Bool) (l : List α) : ∀ k : Int, 0 <= k -> (0 <= zfj p l k ↔ l.any p = true) := by
 induction l with
 | nil => intro k hk; simp [zfj]
 | cons s l ih =>
  intro k hk;by_cases h : p s = true
  ·simp [zfj, h, hk]
  ·rw [zfj, if_neg h, ih (k + 1) (by omega)];simp [h]
theorem za7 {α : Type} {p : α -> Prop} {l : List α} {i : Nat} {x : α} (hx : l[i]? = some x) (h : ∀ c ∈ l.take i, p c) (hp : p x) : ∀ c ∈ l.take (i + 1), p c := by
 obtain ⟨hi, rfl⟩ := lGE.1 hx;rw [List.take_succ_eq_append_getElem hi];intro c hc;rcases List.mem_append.1 hc with hc | hc
 ·exact h c hc
 ·simp at hc; subst hc; exact hp
theorem zgq (l : List (Int)) (f : FuncId) (caps : List U) (p : Int -> Bool) (hf : ∀ n ∈ l, Fun Tryz.prog f (zmY n :: caps.map .u) (· = .u (.bool (p n)))) (hcl : zak Tryz.prog f = true)
  (hca : ∀ o, zcp o (caps.map .u) = some (caps.map .u, [])) : Fun Tryz.prog 147 [.u (ints l), .fnc (.func f) (caps.map .u)] (· = .u (.int .i64 (zfj p l 0))) := by
 (refine Fun.of_body Tryz.func147 rfl (by simp) fun Γ hn => ?_); simp only [entry, ziC, ziN, maC, maN, oA, Tryz.ntmps147]
 simp only [ints];refine zgR (x := 0) rfl fun hl => ?_;simp at hl
 repeat' (first
  | ((first | refine zag ?_ | refine zaj ?_ | refine zah ?_ | refine zaA ?_ | fail); simp)
  | fail)
 refine zb2 (α := { i : Nat // i <= l.length /\ ∀ c ∈ l.take i, p c = false }) [0, 1, 7] (fun i => [(8, .u (.int .i64 i.1))]) (fun i => l.length - i.1) ⟨0, by omega, by simp⟩ ?_ ?_
 ·exact (Wk.env rfl rfl rfl (by simp [wkE, St.lp, zal, zaa, getK] <;> (try (intros; simp_all; done)) <;> (try (intros; omega)) <;> (try grind)))
 rintro ⟨i, hi, hb⟩;simp [St.lp, St.only, zal, zaa, getK];rcases hx : l[i]? with _ | n
 ·have hge : l.length <= i := by simpa using hx
  repeat' (first
  | ((first | refine zag ?_ | refine zaj ?_ | fail); simp [hx])
  | (refine ⟨by omega, ?_⟩)
  | (refine zah ?_; simp [hx])
  | (refine zar ?_; simp only [zan])
  | (refine zaZ ?_; simp [zan])
  | (intro hc <;> (try (exfalso; omega)))
  | fail)
  (refine EndOK.val (.inr rfl) ?_; simp [zaK, zaf, zas, Tryz.results147])
  rw [List.take_of_length_le hge] at hb;exact (zdA hb).symm
 ·have hlt : i < l.length := (lGE.1 hx).1;have h1 := hf n (List.mem_of_getElem? hx);simp only [zmY] at h1;cases hp : p n
  ·rw [hp] at h1
   repeat' (first
  | ((first | refine zag ?_ | refine zaj ?_ | fail); simp [hx, hca])
  | (refine ⟨by omega, ?_⟩)
  | ((first | refine zah ?_ | refine zai ?_ | refine zaq ?_ | fail); simp [hx, hca])
  | (refine zap ?_; simp only [zan])
  | (refine ⟨?_, by omega⟩)
  | (intro hc <;> (try (exfalso; omega)))
  | (refine CallP.fE (h1) (by first | rfl | fail) (by first | simp [hx, hca] <;> rfl | fail) ?_; (try simp [hcl, hx, hca]))
  | fail)
   refine LoopW.next ⟨i + 1, by omega, za7 hx hb hp⟩ (by simp; omega) ?_
   exact (Wk.env rfl rfl rfl (by simp [wkE, St.lp, zal, zaa, getK] <;> (try (intros; simp_all; done)) <;> (try (intros; omega)) <;> (try grind)))
  ·rw [hp] at h1
   repeat' (first
  | ((first | refine zag ?_ | refine zaj ?_ | refine zah ?_ | refine zai ?_ | fail); simp [hx, hca])
  | ((first | refine zar ?_ | refine zap ?_ | fail); simp only [zan])
  | (refine ⟨?_, by omega⟩)
  | (intro hc <;> (try (exfalso; omega)))
  | (refine CallP.fE (h1) (by first | rfl | fail) (by first | simp [hx, hca] <;> rfl | fail) ?_; (try simp [hcl, hx, hca]))
  | fail)
   (refine EndOK.val (.inr rfl) ?_; simp [zaK, zaf, zas, Tryz.results147])
   rw [ze2 hb hx hp];omega
theorem zeG (l : List (Int)) (f : FuncId) (caps : List U) (p : Int -> Bool) (hf : ∀ n ∈ l, Fun Tryz.prog f (zmY n :: caps.map .u) (· = .u (.bool (p n)))) (hcl : zak Tryz.prog f = true)
  (hca : ∀ o, zcp o (caps.map .u) = some (caps.map .u, [])) (hcb : ∀ o, zbN o (caps.map .u) = some (caps, [])) : Fun Tryz.prog 82 [.u (ints l), .fnc (.func f) (caps.map .u)] (· = .u (.bool (l.any p))) := by
 have h1 := zgq l f caps p hf hcl hca
 (refine Fun.of_body Tryz.func82 rfl (by simp) fun Γ hn => ?_); simp only [entry, ziC, ziN, maC, maN, oA, Tryz.ntmps82]
 simp only [ints] at h1 ⊢
 repeat' (first
  | ((first | refine zag ?_ | refine zaj ?_ | refine zah ?_ | fail); simp [hcb])
  | (refine zar ?_; simp only [zan])
  | (refine CallP.fE (h1) (by first | rfl | fail) (by first | simp [hcb] <;> rfl | fail) ?_; (try simp [hcl, hcb]))
  | fail)
 (refine EndOK.val (.inr rfl) ?_; simp [zaK, zaf, zas, Tryz.results82])
 have h2 := zeB p l 0 (by omega);rw [Bool.eq_iff_iff];simpa using h2
theorem zmX (l : List (Con)) (f : FuncId) (caps : List U) (p : Con -> Bool) (hf : ∀ n ∈ l, Fun Tryz.prog f (zsH n :: caps.map .u) (· = .u (.bool (p n)))) (hcl : zak Tryz.prog f = true)
  (hca : ∀ o, zcp o (caps.map .u) = some (caps.map .u, [])) : Fun Tryz.prog 148 [.u (consU l), .fnc (.func f) (caps.map .u)] (· = .u (.int .i64 (zfj p l 0))) := by
 (refine Fun.of_body Tryz.func148 rfl (by simp) fun Γ hn => ?_); simp only [entry, ziC, ziN, maC, maN, oA, Tryz.ntmps148]
 simp only [consU];refine zgR (x := 0) rfl fun hl => ?_;simp at hl
 repeat' (first
  | ((first | refine zag ?_ | refine zaj ?_ | refine zah ?_ | refine zaA ?_ | fail); simp)
  | fail)
 refine zb2 (α := { i : Nat // i <= l.length /\ ∀ c ∈ l.take i, p c = false }) [0, 1, 7] (fun i => [(8, .u (.int .i64 i.1))]) (fun i => l.length - i.1) ⟨0, by omega, by simp⟩ ?_ ?_
 ·exact (Wk.env rfl rfl rfl (by simp [wkE, St.lp, zal, zaa, getK] <;> (try (intros; simp_all; done)) <;> (try (intros; omega)) <;> (try grind)))
 rintro ⟨i, hi, hb⟩;simp [St.lp, St.only, zal, zaa, getK];rcases hx : l[i]? with _ | n
 ·have hge : l.length <= i := by simpa using hx
  repeat' (first
  | ((first | refine zag ?_ | refine zaj ?_ | fail); simp [hx])
  | (refine ⟨by omega, ?_⟩)
  | (refine zah ?_; simp [hx])
  | (refine zar ?_; simp only [zan])
  | (refine zaZ ?_; simp [zan])
  | (intro hc <;> (try (exfalso; omega)))
  | fail)
  (refine EndOK.val (.inr rfl) ?_; simp [zaK, zaf, zas, Tryz.results148])
  rw [List.take_of_length_le hge] at hb;exact (zdA hb).symm
 ·have hlt : i < l.length := (lGE.1 hx).1;have h1 := hf n (List.mem_of_getElem? hx);simp only [zsH] at h1;cases hp : p n
  ·rw [hp] at h1
   repeat' (first
  | ((first | refine zag ?_ | refine zaj ?_ | fail); simp [hx, hca])
  | (refine ⟨by omega, ?_⟩)
  | ((first | refine zah ?_ | refine zai ?_ | refine zaq ?_ | fail); simp [hx, hca])
  | (refine zap ?_; simp only [zan])
  | (refine ⟨?_, by omega⟩)
  | (intro hc <;> (try (exfalso; omega)))
  | (refine CallP.fE (h1) (by first | rfl | fail) (by first | simp [hx, hca] <;> rfl | fail) ?_; (try simp [hcl, hx, hca]))
  | fail)
   refine LoopW.next ⟨i + 1, by omega, za7 hx hb hp⟩ (by simp; omega) ?_
   exact (Wk.env rfl rfl rfl (by simp [wkE, St.lp, zal, zaa, getK] <;> (try (intros; simp_all; done)) <;> (try (intros; omega)) <;> (try grind)))
  ·rw [hp] at h1
   repeat' (first
  | ((first | refine zag ?_ | refine zaj ?_ | refine zah ?_ | refine zai ?_ | fail); simp [hx, hca])
  | ((first | refine zar ?_ | refine zap ?_ | fail); simp only [zan])
  | (refine ⟨?_, by omega⟩)
  | (intro hc <;> (try (exfalso; omega)))
  | (refine CallP.fE (h1) (by first | rfl | fail) (by first | simp [hx, hca] <;> rfl | fail) ?_; (try simp [hcl, hx, hca]))
  | fail)
   (refine EndOK.val (.inr rfl) ?_; simp [zaK, zaf, zas, Tryz.results148])
   rw [ze2 hb hx hp];omega
theorem zjs (l : List (Con)) (f : FuncId) (caps : List U) (p : Con -> Bool) (hf : ∀ n ∈ l, Fun Tryz.prog f (zsH n :: caps.map .u) (· = .u (.bool (p n)))) (hcl : zak Tryz.prog f = true)
  (hca : ∀ o, zcp o (caps.map .u) = some (caps.map .u, [])) (hcb : ∀ o, zbN o (caps.map .u) = some (caps, [])) : Fun Tryz.prog 84 [.u (consU l), .fnc (.func f) (caps.map .u)] (· = .u (.bool (l.any p))) := by
 have h1 := zmX l f caps p hf hcl hca
 (refine Fun.of_body Tryz.func84 rfl (by simp) fun Γ hn => ?_); simp only [entry, ziC, ziN, maC, maN, oA, Tryz.ntmps84]
 simp only [consU] at h1 ⊢
 repeat' (first
  | ((first | refine zag ?_ | refine zaj ?_ | refine zah ?_ | fail); simp [hcb])
  | (refine zar ?_; simp only [zan])
  | (refine CallP.fE (h1) (by first | rfl | fail) (by first | simp [hcb] <;> rfl | fail) ?_; (try simp [hcl, hcb]))
  | fail)
 (refine EndOK.val (.inr rfl) ?_; simp [zaK, zaf, zas, Tryz.results84])
 have h2 := zeB p l 0 (by omega);rw [Bool.eq_iff_iff];simpa using h2
theorem zgi (n : Int) (c : Con) : Fun Tryz.prog 142 (zsH c :: [U.row [.int .i64 n] 0].map .u) (· = .u (.bool (!okB n c))) := by
 simp only [zsH, List.map_cons, List.map_nil]
 (refine Fun.of_body Tryz.func142 rfl (by simp) fun Γ hn => ?_); simp only [entry, ziC, ziN, maC, maN, oA, Tryz.ntmps142]
 repeat' (first
  | ((first | refine zag ?_ | refine zaj ?_ | refine zah ?_ | fail); simp)
  | (refine zar ?_; simp only [zan])
  | (refine ⟨fun hc => ?_, fun hc => ?_⟩ <;> (try (exfalso; omega)))
  | fail)
 all_goals
  (refine EndOK.val (.inr rfl) ?_; simp [zaK, zaf, zas, Tryz.results142])
 all_goals (simp only [okB, zjc]; grind)
theorem zrN (l : List Con) (n : Int) : l.all (okB n) = !l.any fun c => !okB n c := by
 induction l with
 | nil => rfl
 | cons a l ih => simp [ih]
theorem zfU (l : List Con) (n : Int) : Fun Tryz.prog 77 [.u (consU l), .u (.int .i64 n)] (· = .u (.bool (rightL l n))) := by
 have h1 := zjs l 142 [U.row [.int .i64 n] 0] _ (fun c _ => zgi n c) (by simp) (fun _ => rfl) (fun _ => rfl);simp only [List.map_cons, List.map_nil] at h1;unfold rightL;rw [zrN];generalize (l.any fun c => !okB n c) = z at h1 ⊢
 (refine Fun.of_body Tryz.func77 rfl (by simp) fun Γ hn => ?_); simp only [entry, ziC, ziN, maC, maN, oA, Tryz.ntmps77]
 simp only [consU] at h1 ⊢
 repeat' (first
  | ((first | refine zag ?_ | refine zaj ?_ | refine zah ?_ | refine zai ?_ | fail); simp)
  | ((first | refine zar ?_ | refine zap ?_ | fail); simp only [zan])
  | (refine ⟨fun hc => ?_, fun hc => ?_⟩ <;> (try (exfalso; omega)))
  | (refine CallP.fE (h1) (by first | rfl | fail) (by first | (simp; done) | (simp; rfl) | fail) ?_; (try simp))
  | fail)
 all_goals
  (refine EndOK.val (.inr rfl) ?_; simp [zaK, zaf, zas, Tryz.results77])
 all_goals grind
theorem ziK (v : Int) : Fun Tryz.prog 83 (zmY v :: [].map .u) (· = .u (.bool (!znC v))) := by
 simp only [zmY, List.map_cons, List.map_nil]
 (refine Fun.of_body Tryz.func83 rfl (by simp) fun Γ hn => ?_); simp only [entry, ziC, ziN, maC, maN, oA, Tryz.ntmps83]
 repeat' (first
  | ((first | refine zag ?_ | refine zaj ?_ | refine zah ?_ | fail); simp)
  | (refine zar ?_; simp only [zan])
  | (refine ⟨fun hc => ?_, fun hc => ?_⟩ <;> (try (exfalso; omega)))
  | fail)
 all_goals
  (refine EndOK.val (.inr rfl) ?_; simp [zaK, zaf, zas, Tryz.results83])
 all_goals (simp only [znC]; grind)
end Go.Proofs.YtepiegcjnaohjaaGreatDoor.Df
namespace Go.Proofs.YtepiegcjnaohjaaGreatDoor
open Go Go.VL
attribute [local simp] zdf zcf evPure opd uOf zaI St.put St.at getK binD binI binS binB nilD aggD zgQ zhI lookD lookR zcE Go.VL.nextD zcI zhV zhU zfX zb8 mkV zbo zbh zbf zbe zda zbb zbx zbJ mapEff zdm zfI Key.kk shiftI arith unD convD zdP loadD cellsAt fieldAddrD fieldD indexAddrD indexD sliceD cutD lenD minmaxD nilCheckD buildD fillD zb3 zdi zeX setAll zc1 zeI zcD zg3 zcy St.add zaO zbU rowsOf zdJ zcJ zam zac zaa zbm zcS zaN entry zbH zbL valD zcb zcp zgK zdr zds zcc zbN zaz za1 zbn delAll effD St.effS zc7 zbi za3 zc8 zbj za5 zcn za4 zaT zco zc4 zbM zcl zbw zcj zck zaY mkD zbq zbG zb0 zaz zcC D.ids Op.operands Call.operands zby makeIfD makeFuncD typeAssertD zhG zdG zdH zhb zcG IntKind.bits zcg zaS List.take_of_length_le List.range_succ
attribute [local irreducible] V G H HD HD2 zan Eff CallP CallV EndOK Fun Ret FinOK LoopI LoopW EndW
inductive Exp where
 | mk (op n unit : Int) (s : List UInt8) (args : List Exp)
 deriving Inhabited
def Exp.row : Exp -> List U
 | .mk op n u s args => [.int .i64 op, .int .i64 n, .int .i64 u, .str s, .sl (args.map fun e => e.row)]
def Exp.op : Exp -> Int | .mk op _ _ _ _ => op
def Exp.n : Exp -> Int | .mk _ n _ _ _ => n
def Exp.unit : Exp -> Int | .mk _ _ u _ _ => u
def Exp.s : Exp -> List UInt8 | .mk _ _ _ s _ => s
def Exp.args : Exp -> List Exp | .mk _ _ _ _ args => args
theorem Exp.row_eq (e : Exp) : e.row = [.int .i64 e.op, .int .i64 e.n, .int .i64 e.unit, .str e.s, .sl (e.args.map Exp.row)] := by
 cases e with
 | mk op n u s args => rw [Exp.row]; rfl
structure Var where
 name : List UInt8
 unit : Int
 n : Int
 deriving DecidableEq, Inhabited
structure Let where
 name : List UInt8
 body : Exp
 deriving Inhabited
def Var.row (v : Var) : List U := [.str v.name, .int .i64 v.unit, .int .i64 v.n]
def Let.row (l : Let) : List U := .str l.name :: l.body.row
def vars (l : List Var) : U := .sl (l.map Var.row)
def lets (l : List Let) : U := .sl (l.map Let.row)
def zdv (c : UInt8) : Bool := decide (97 <= c.toNat) && decide (c.toNat <= 122)
def zbC (c : UInt8) : Bool := decide (48 <= c.toNat) && decide (c.toNat <= 57)
theorem zei (c : UInt8) : Fun Tryz.prog 220 [.u (.int .u8 c.toNat)] (· = .u (.bool (zdv c))) := by
 unfold zdv
 (refine Fun.of_body Tryz.func220 rfl (by simp) fun Γ hn => ?_); simp only [entry, ziC, ziN, maC, maN, oA, Tryz.ntmps220]
 repeat' (first
  | ((first | refine zag ?_ | refine zaj ?_ | refine zah ?_ | fail); simp)
  | (refine zar ?_; simp only [zan])
  | (refine ⟨fun hc => ?_, fun hc => ?_⟩ <;> (try (exfalso; omega)))
  | fail)
 all_goals
  (refine EndOK.val (.inr rfl) ?_; simp [zaK, zaf, zas, Tryz.results220])
 all_goals first | omega | (simp; omega) | (rw [Bool.eq_iff_iff]; simp; omega)
theorem zfa (c : UInt8) : Fun Tryz.prog 222 [.u (.int .u8 c.toNat)] (· = .u (.bool (zbC c))) := by
 unfold zbC
 (refine Fun.of_body Tryz.func222 rfl (by simp) fun Γ hn => ?_); simp only [entry, ziC, ziN, maC, maN, oA, Tryz.ntmps222]
 repeat' (first
  | ((first | refine zag ?_ | refine zaj ?_ | refine zah ?_ | fail); simp)
  | (refine zar ?_; simp only [zan])
  | (refine ⟨fun hc => ?_, fun hc => ?_⟩ <;> (try (exfalso; omega)))
  | fail)
 all_goals
  (refine EndOK.val (.inr rfl) ?_; simp [zaK, zaf, zas, Tryz.results222])
 all_goals first | omega | (simp; omega) | (rw [Bool.eq_iff_iff]; simp; omega)
theorem zni (c : UInt8) : Fun Tryz.prog 221 [.u (.int .u8 c.toNat)] (· = .u (.bool (zdv c || zbC c))) := by
 (refine Fun.of_body Tryz.func221 rfl (by simp) fun Γ hn => ?_); simp only [entry, ziC, ziN, maC, maN, oA, Tryz.ntmps221]
 repeat' (first
  | ((first | refine zag ?_ | refine zaj ?_ | refine zah ?_ | fail); simp)
  | (refine zar ?_; simp only [zan])
  | (refine ⟨fun hc => ?_, fun hc => ?_⟩ <;> (try (exfalso; omega)))
  | (refine CallP.fE (zei c) (by first | rfl | fail) (by first | (simp; done) | (simp; rfl) | fail) ?_; (try simp))
  | (refine CallP.fE (zfa c) (by first | rfl | fail) (by first | (simp; done) | (simp; rfl) | fail) ?_; (try simp))
  | fail)
 all_goals
  (refine EndOK.val (.inr rfl) ?_; simp [zaK, zaf, zas, Tryz.results221])
 all_goals simp_all
def zcT (p : UInt8 -> Bool) (l : List UInt8) : Nat := (l.takeWhile p).length
theorem zlH {p : UInt8 -> Bool} {l : List UInt8} {i : Nat} (h : ∀ c ∈ l.take i, p c = true) (hi : i <= l.length) (he : i = l.length \/ ∃ c, l[i]? = some c /\ p c = false) : zcT p l = i := by
 unfold zcT
 induction l generalizing i with
 | nil => simp at hi; simp [hi]
 | cons a l ih =>
  cases i with
  | zero =>
   rcases he with he | ⟨c, h1, h2⟩
   ·simp at he
   ·simp at h1; subst h1; simp [h2]
  | succ i =>
   have ha : p a = true := h a (by simp);rw [List.takeWhile_cons, if_pos ha, List.length_cons];rw [ih (i := i) (fun c hc => h c (by simp [hc])) (by simpa using hi) (by simpa using he)]
def zfj {α : Type} (p : α -> Bool) : List α -> Int -> Int
 | [], _ => -1
 | x :: l, i => if p x = true then i else zfj p l (i + 1)
theorem ze2 {α : Type} {p : α -> Bool} {l : List α} {i : Nat} {x : α} {k : Int} (h : ∀ c ∈ l.take i, p c = false) (hx : l[i]? = some x) (hp : p x = true) : zfj p l k = k + i := by
 induction l generalizing i k with
 | nil => simp at hx
 | cons s l ih =>
  cases i with
  | zero => simp at hx; simp [zfj, hx, hp]
  | succ i =>
   rw [zfj, if_neg (by rw [h s (by simp)]; simp), ih (i := i) (fun c hc => h c (by simp [hc])) (by simpa using hx)];omega
theorem zdA {α : Type} {p : α -> Bool} {l : List α} {k : Int} (h : ∀ c ∈ l, p c = false) : zfj p l k = -1 := by
 induction l generalizing k with
 | nil => rfl
 | cons s l ih => rw [zfj, if_neg (by rw [h s (by simp)]; simp), ih fun c hc => h c (by simp [hc])]
theorem zeB {α : Type} (p : α -> Bool) (l : List α) : ∀ k : Int, 0 <= k -> (0 <= zfj p l k ↔ l.any p = true) := by
 induction l with
 | nil => intro k hk; simp [zfj]
 | cons s l ih =>
  intro k hk;by_cases h : p s = true
  ·simp [zfj, h, hk]
  ·rw [zfj, if_neg h, ih (k + 1) (by omega)];simp [h]
theorem za7 {α : Type} {p : α -> Prop} {l : List α} {i : Nat} {x : α} (hx : l[i]? = some x) (h : ∀ c ∈ l.take i, p c) (hp : p x) : ∀ c ∈ l.take (i + 1), p c := by
 obtain ⟨hi, rfl⟩ := lGE.1 hx;rw [List.take_succ_eq_append_getElem hi];intro c hc;rcases List.mem_append.1 hc with hc | hc
 ·exact h c hc
 ·simp at hc; subst hc; exact hp
theorem zfS (l : List UInt8) (hl : l.length <= 1000000) (f : FuncId) (p : UInt8 -> Bool) (hf : ∀ c ∈ l, Fun Tryz.prog f [.u (.int .u8 c.toNat)] (· = .u (.bool (p c)))) (hcl : zak Tryz.prog f = true) :
  Fun Tryz.prog 197 [.u (.str l), .fnc (.func f) []] (· = .u (.int .i64 (zcT p l))) := by
 (refine Fun.of_body Tryz.func197 rfl (by simp) fun Γ hn => ?_); simp only [entry, ziC, ziN, maC, maN, oA, Tryz.ntmps197]
 repeat' (first
  | ((first | refine zag ?_ | refine zaj ?_ | refine zah ?_ | fail); simp)
  | fail)
 refine zb2 (α := { i : Nat // i <= l.length /\ ∀ c ∈ l.take i, p c = true }) [0, 1] (fun i => [(5, .u (.int .i64 i.1))]) (fun i => l.length - i.1) ⟨0, by omega, by simp⟩ ?_ ?_
 ·exact (Wk.env rfl rfl rfl (by simp [wkE, St.lp, zal, zaa, getK] <;> (try (intros; simp_all; done)) <;> (try (intros; omega)) <;> (try grind)))
 rintro ⟨i, hi, hb⟩;simp [St.lp, St.only, zal, zaa, getK];rcases hx : l[i]? with _ | c
 ·have hge : l.length <= i := by simpa using hx
  repeat' (first
  | ((first | refine zag ?_ | refine zaj ?_ | fail); simp [hx])
  | (refine ⟨by omega, ?_⟩)
  | ((first | refine zah ?_ | refine zai ?_ | fail); simp [hx])
  | (refine zar ?_; simp only [zan])
  | (refine zaZ ?_; simp [zan])
  | (intro hc <;> (try (exfalso; omega)))
  | fail)
  (refine EndOK.val (.inr rfl) ?_; simp [zaK, zaf, zas, Tryz.results197])
  rw [zlH hb hi (.inl (by omega))]
 ·have hlt := (lGE.1 hx).1;have h1 := hf c (List.mem_of_getElem? hx)
  repeat' (first
  | ((first | refine zag ?_ | refine zaj ?_ | fail); simp [hx])
  | (refine ⟨by omega, ?_⟩)
  | ((first | refine zah ?_ | refine zai ?_ | refine zaA ?_ | fail); simp [hx])
  | ((first | refine zar ?_ | refine zap ?_ | fail); simp only [zan])
  | (refine zaZ ?_; simp [zan])
  | (refine ⟨?_, by omega⟩)
  | (refine ⟨fun hc => ?_, fun hc => ?_⟩ <;> (try (exfalso; omega)))
  | (intro hc <;> (try (exfalso; omega)))
  | (refine CallP.fE (h1) (by first | rfl | fail) (by first | simp [hx] <;> rfl | fail) ?_; (try simp [hcl, hx]))
  | fail)
  ·refine LoopW.next ⟨i + 1, by omega, za7 hx hb (by assumption)⟩ (by simp; omega) ?_
   exact (Wk.env rfl rfl rfl (by simp [wkE, St.lp, zal, zaa, getK] <;> (try (intros; simp_all; done)) <;> (try (intros; omega)) <;> (try grind)))
  ·(refine EndOK.val (.inr rfl) ?_; simp [zaK, zaf, zas, Tryz.results197])
   rw [zlH hb hi (.inr ⟨c, hx, by assumption⟩)]
def zjy (s : List UInt8) : Bool := match s with
 | [] => false
 | c :: _ => zdv c && decide (s.length <= 20) && decide (zcT (fun c => zdv c || zbC c) s = s.length)
theorem zlz (s : List UInt8) : Fun Tryz.prog 167 [.u (.str s)] (· = .u (.bool (zjy s))) := by
 cases s with
 | nil =>
  (refine Fun.of_body Tryz.func167 rfl (by simp) fun Γ hn => ?_); simp only [entry, ziC, ziN, maC, maN, oA, Tryz.ntmps167]
  repeat' (first
  | ((first | refine zag ?_ | refine zaj ?_ | refine zah ?_ | refine zai ?_ | fail); simp)
  | (refine zar ?_; simp only [zan])
  | fail)
  all_goals
   (refine EndOK.val (.inr rfl) ?_; simp [zaK, zaf, zas, Tryz.results167])
  all_goals simp [zjy]
 | cons c s =>
  by_cases hl : s.length + 1 <= 20
  ·have hs := zfS (c :: s) (by simp; omega) 221 _ (fun c _ => zni c) (by simp)
   (refine Fun.of_body Tryz.func167 rfl (by simp) fun Γ hn => ?_); simp only [entry, ziC, ziN, maC, maN, oA, Tryz.ntmps167]
   repeat' (first
  | ((first | refine zag ?_ | refine zaj ?_ | fail); simp)
  | (refine ⟨by omega, ?_⟩)
  | ((first | refine zah ?_ | refine zai ?_ | fail); simp)
  | ((first | refine zar ?_ | refine zap ?_ | fail); simp only [zan])
  | (refine ⟨fun hc => ?_, fun hc => ?_⟩ <;> (try (exfalso; omega)))
  | (intro hc <;> (try (exfalso; omega)))
  | (refine CallP.fE (zei c) (by first | rfl | fail) (by first | (simp; done) | (simp; rfl) | fail) ?_; (try simp))
  | (refine CallP.fE (hs) (by first | rfl | fail) (by first | (simp; done) | (simp; rfl) | fail) ?_; (try simp))
  | fail)
   all_goals
    (refine EndOK.val (.inr rfl) ?_; simp [zaK, zaf, zas, Tryz.results167])
   all_goals
    simp [zjy, *]
    try omega
  ·(refine Fun.of_body Tryz.func167 rfl (by simp) fun Γ hn => ?_); simp only [entry, ziC, ziN, maC, maN, oA, Tryz.ntmps167]
   repeat' (first
  | ((first | refine zag ?_ | refine zaj ?_ | refine zah ?_ | refine zai ?_ | fail); simp)
  | (refine zar ?_; simp only [zan])
  | (refine ⟨?_, by omega⟩)
  | (refine ⟨fun hc => ?_, fun hc => ?_⟩ <;> (try (exfalso; omega)))
  | (intro hc <;> (try (exfalso; omega)))
  | (refine CallP.fE (zei c) (by first | rfl | fail) (by first | (simp; done) | (simp; rfl) | fail) ?_; (try simp))
  | fail)
   all_goals
     (refine EndOK.val (.inr rfl) ?_; simp [zaK, zaf, zas, Tryz.results167])
   all_goals
     simp [zjy, *]
     try omega
def zev (l : List (List UInt8)) : U := .sl (l.map fun s => [.str s])
def zoy : List (List UInt8) -> List UInt8 -> Int -> Int
 | [], _, _ => -1
 | s :: l, x, i => if x = s then i else zoy l x (i + 1)
theorem zrw {l : List (List UInt8)} {x : List UInt8} {i : Nat} {k : Int} (h : ∀ c ∈ l.take i, ¬ x = c) (hx : l[i]? = some x) : zoy l x k = k + i := by
 induction l generalizing i k with
 | nil => simp at hx
 | cons s l ih =>
  cases i with
  | zero => simp at hx; simp [zoy, hx]
  | succ i =>
   rw [zoy, if_neg (h s (by simp)), ih (i := i) (fun c hc => h c (by simp [hc])) (by simpa using hx)];omega
theorem zox {l : List (List UInt8)} {x : List UInt8} {k : Int} (h : ∀ c ∈ l, ¬ x = c) : zoy l x k = -1 := by
 induction l generalizing k with
 | nil => rfl
 | cons s l ih => rw [zoy, if_neg (h s (by simp)), ih fun c hc => h c (by simp [hc])]
theorem zmQ (l : List (List UInt8)) (x : List UInt8) : Fun Tryz.prog 223 [.u (zev l), .u (.str x)] (· = .u (.int .i64 (zoy l x 0))) := by
 (refine Fun.of_body Tryz.func223 rfl (by simp) fun Γ hn => ?_); simp only [entry, ziC, ziN, maC, maN, oA, Tryz.ntmps223]
 simp only [zev];refine zgR (x := 0) rfl fun hl => ?_;simp at hl
 repeat' (first
  | ((first | refine zag ?_ | refine zaj ?_ | refine zah ?_ | refine zaA ?_ | fail); simp)
  | fail)
 refine zb2 (α := { i : Nat // i <= l.length /\ ∀ c ∈ l.take i, ¬ x = c }) [0, 1, 7] (fun i => [(8, .u (.int .i64 i.1))]) (fun i => l.length - i.1) ⟨0, by omega, by simp⟩ ?_ ?_
 ·exact (Wk.env rfl rfl rfl (by simp [wkE, St.lp, zal, zaa, getK] <;> (try (intros; simp_all; done)) <;> (try (intros; omega)) <;> (try grind)))
 rintro ⟨i, hi, hb⟩;simp [St.lp, St.only, zal, zaa, getK];rcases hx : l[i]? with _ | c
 ·have hge : l.length <= i := by simpa using hx
  repeat' (first
  | ((first | refine zag ?_ | refine zaj ?_ | fail); simp [hx])
  | (refine ⟨by omega, ?_⟩)
  | (refine zah ?_; simp [hx])
  | (refine zar ?_; simp only [zan])
  | (refine zaZ ?_; simp [zan])
  | (intro hc <;> (try (exfalso; omega)))
  | fail)
  (refine EndOK.val (.inr rfl) ?_; simp [zaK, zaf, zas, Tryz.results223])
  rw [List.take_of_length_le hge] at hb;exact (zox hb).symm
 ·have hlt := (lGE.1 hx).1;by_cases hxc : x = c
  ·subst hxc
   repeat' (first
  | ((first | refine zag ?_ | refine zaj ?_ | refine zah ?_ | refine zai ?_ | fail); simp [hx])
  | ((first | refine zar ?_ | refine zap ?_ | fail); simp only [zan])
  | (refine ⟨?_, by omega⟩)
  | (intro hc <;> (try (exfalso; omega)))
  | fail)
   (refine EndOK.val (.inr rfl) ?_; simp [zaK, zaf, zas, Tryz.results223])
   rw [zrw hb hx];omega
  ·repeat' (first
  | ((first | refine zag ?_ | refine zaj ?_ | fail); simp [hx, hxc])
  | (refine ⟨by omega, ?_⟩)
  | ((first | refine zah ?_ | refine zai ?_ | refine zaq ?_ | fail); simp [hx, hxc])
  | (refine zap ?_; simp only [zan])
  | (refine ⟨?_, by omega⟩)
  | (intro hc <;> (try (exfalso; omega)))
  | fail)
   refine LoopW.next ⟨i + 1, by omega, za7 hx hb hxc⟩ (by simp; omega) ?_
   exact (Wk.env rfl rfl rfl (by simp [wkE, St.lp, zal, zaa, getK] <;> (try (intros; simp_all; done)) <;> (try (intros; omega)) <;> (try grind)))
theorem zp1 (l : List (List UInt8)) (x : List UInt8) : ∀ k : Int, 0 <= k -> decide (0 <= zoy l x k) = l.contains x := by
 induction l with
 | nil => intro k hk; simp [zoy]
 | cons s l ih =>
  intro k hk;by_cases h : x = s
  ·subst h; simp [zoy, hk]
  ·rw [zoy, if_neg h, ih (k + 1) (by omega)];simp [h]
theorem zjq (l : List (List UInt8)) (x : List UInt8) : Fun Tryz.prog 168 [.u (zev l), .u (.str x)] (· = .u (.bool (l.contains x))) := by
 have h1 := zmQ l x
 (refine Fun.of_body Tryz.func168 rfl (by simp) fun Γ hn => ?_); simp only [entry, ziC, ziN, maC, maN, oA, Tryz.ntmps168]
 simp only [zev] at h1 ⊢
 repeat' (first
  | ((first | refine zag ?_ | refine zaj ?_ | refine zah ?_ | fail); simp)
  | (refine zar ?_; simp only [zan])
  | (refine CallP.fE (h1) (by first | rfl | fail) (by first | (simp; done) | (simp; rfl) | fail) ?_; (try simp))
  | fail)
 (refine EndOK.val (.inr rfl) ?_; simp [zaK, zaf, zas, Tryz.results168])
 have h2 := zp1 l x 0 (by omega);simpa using h2
def words : List (List UInt8) := [[97, 110, 100], [98, 97, 99, 107, 115], [98, 105, 100, 100, 105, 110, 103], [99, 105, 114, 99, 108, 101], [99, 111, 105, 110, 115], [99, 111, 118, 101, 114], [100, 97, 121, 115], [100, 114, 97, 119], [100, 117, 101], [101, 108, 115, 101], [102, 97, 108, 115, 101], [102, 105, 110, 101], [102, 117, 110, 100], [103, 114, 97, 99, 101], [104, 111, 108, 100], [105, 102], [106, 111, 105, 110], [106, 117, 114, 121], [108, 101, 116], [109, 97, 120], [109, 105, 108, 108, 101], [109, 105, 110], [110, 101, 101, 100], [110, 111, 116], [111, 114], [111, 114, 100, 101, 114], [112, 97, 121], [112, 101, 114], [114, 111, 116, 97, 116, 105, 110, 103], [115, 97, 118, 105, 110, 103], [115, 101, 97, 108, 101, 100], [116, 104, 101, 110], [116, 114, 117, 101], [118, 111, 105, 99, 101, 115], [119, 97, 105, 116]]
set_option maxHeartbeats 4000000 in
set_option maxRecDepth 100000 in
theorem zjQ : Fun Tryz.prog 169 [] (· = .u (zev words)) := by
 (refine Fun.of_bodyW Tryz.func169 rfl (by simp) fun Γ hn => ?_); simp only [entry, ziC, ziN, maC, maN, oA, Tryz.ntmps169]
 simp only [zev, words, List.map_cons, List.map_nil]
 repeat' (first
  | ((first | refine zag ?_ | refine zaj ?_ | refine zah ?_ | fail); simp [zbL, zbH])
  | (refine zar ?_; simp only [zan])
  | fail)
 (refine EndW.frzN 1 ?_; simp [frzN, frz1, zaD, zaC, St.frz, St.frzS, frzS, fv, zaV, za8, za9, frzObS, zay, zat, del, frz, zbc])
 refine EndW.here ?_
 (refine EndOK.val (.inr rfl) ?_; simp [zaK, zaf, zas, Tryz.results169])
def zeA (s : List UInt8) : Bool := zjy s && !words.contains s
set_option maxRecDepth 100000 in
theorem zgX (s : List UInt8) : Fun Tryz.prog 99 [.u (.str s)] (· = .u (.bool (zeA s))) := by
 have h1 := zjq words s;have h2 := zlz s;have h3 := zjQ;generalize hw : words.contains s = w at h1;simp only [zev] at h1 h3;generalize (words.map fun s => [U.str s]) = W at h1 h3;unfold zeA;rw [hw];clear hw;generalize zjy s = b at h2 ⊢;cases b
 all_goals
  (refine Fun.of_body Tryz.func99 rfl (by simp) fun Γ hn => ?_); simp only [entry, ziC, ziN, maC, maN, oA, Tryz.ntmps99]
  repeat' (first
  | ((first | refine zag ?_ | refine zaj ?_ | refine zah ?_ | fail); simp)
  | (refine zar ?_; simp only [zan])
  | (refine CallP.fE (h1) (by first | rfl | fail) (by first | (simp; done) | (simp; rfl) | fail) ?_; (try simp))
  | (refine CallP.fE (h2) (by first | rfl | fail) (by first | (simp; done) | (simp; rfl) | fail) ?_; (try simp))
  | (refine CallP.fE (h3) (by first | rfl | fail) (by first | (simp; done) | (simp; rfl) | fail) ?_; (try simp))
  | fail)
  (refine EndOK.val (.inr rfl) ?_; simp [zaK, zaf, zas, Tryz.results99])
def zcm (op : Int) : Int := if op = 0 \/ op = 1 then 0 else if op = 12 then 1 else if op = 13 then 3 else if op < 0 \/ 14 <= op then -1 else 2
theorem zj3 (op : Int) : Fun Tryz.prog 213 [.u (.int .i64 op)] (· = .u (.int .i64 (zcm op))) := by
 unfold zcm
 (refine Fun.of_body Tryz.func213 rfl (by simp) fun Γ hn => ?_); simp only [entry, ziC, ziN, maC, maN, oA, Tryz.ntmps213]
 repeat' (first
  | ((first | refine zag ?_ | refine zaj ?_ | refine zah ?_ | refine zai ?_ | refine zaA ?_ | refine zaq ?_ | fail); simp)
  | ((first | refine zar ?_ | refine zap ?_ | fail); simp only [zan])
  | (refine ⟨?_, by omega⟩)
  | (refine ⟨fun hc => ?_, fun hc => ?_⟩ <;> (try (exfalso; omega)))
  | (intro hc <;> (try (exfalso; omega)))
  | fail)
 all_goals
  (refine EndOK.val (.inr rfl) ?_; simp [zaK, zaf, zas, Tryz.results213])
 all_goals (repeat' split) <;> first | rfl | omega | simp_all
theorem zrE : Exp.row = fun e => [.int .i64 e.op, .int .i64 e.n, .int .i64 e.unit, .str e.s, .sl (e.args.map Exp.row)] := funext fun e => e.row_eq
def zeD (e : Exp) : D := .u (.agg [.int .i64 e.op, .int .i64 e.n, .int .i64 e.unit, .str e.s, .sl (e.args.map Exp.row)])
def zsj (l : List Exp) : U := .sl (l.map fun e => [.int .i64 e.op, .int .i64 e.n, .int .i64 e.unit, .str e.s, .sl (e.args.map Exp.row)])
theorem zrC (l : List Exp) : zsj l = .sl (l.map Exp.row) := by rw [zsj, <- zrE]
theorem zmV (l : List (Exp)) (f : FuncId) (caps : List U) (p : Exp -> Bool) (hf : ∀ n ∈ l, Fun Tryz.prog f (zeD n :: caps.map .u) (· = .u (.bool (p n)))) (hcl : zak Tryz.prog f = true)
  (hca : ∀ o, zcp o (caps.map .u) = some (caps.map .u, [])) : Fun Tryz.prog 272 [.u (zsj l), .fnc (.func f) (caps.map .u)] (· = .u (.int .i64 (zfj p l 0))) := by
 (refine Fun.of_body Tryz.func272 rfl (by simp) fun Γ hn => ?_); simp only [entry, ziC, ziN, maC, maN, oA, Tryz.ntmps272]
 simp only [zsj];refine zgR (x := 0) rfl fun hl => ?_;simp at hl
 repeat' (first
  | ((first | refine zag ?_ | refine zaj ?_ | refine zah ?_ | refine zaA ?_ | fail); simp)
  | fail)
 refine zb2 (α := { i : Nat // i <= l.length /\ ∀ c ∈ l.take i, p c = false }) [0, 1, 7] (fun i => [(8, .u (.int .i64 i.1))]) (fun i => l.length - i.1) ⟨0, by omega, by simp⟩ ?_ ?_
 ·exact (Wk.env rfl rfl rfl (by simp [wkE, St.lp, zal, zaa, getK] <;> (try (intros; simp_all; done)) <;> (try (intros; omega)) <;> (try grind)))
 rintro ⟨i, hi, hb⟩;simp [St.lp, St.only, zal, zaa, getK];rcases hx : l[i]? with _ | n
 ·have hge : l.length <= i := by simpa using hx
  repeat' (first
  | ((first | refine zag ?_ | refine zaj ?_ | fail); simp [hx])
  | (refine ⟨by omega, ?_⟩)
  | (refine zah ?_; simp [hx])
  | (refine zar ?_; simp only [zan])
  | (refine zaZ ?_; simp [zan])
  | (intro hc <;> (try (exfalso; omega)))
  | fail)
  (refine EndOK.val (.inr rfl) ?_; simp [zaK, zaf, zas, Tryz.results272])
  rw [List.take_of_length_le hge] at hb;exact (zdA hb).symm
 ·have hlt : i < l.length := (lGE.1 hx).1;have h1 := hf n (List.mem_of_getElem? hx);simp only [zeD] at h1;cases hp : p n
  ·rw [hp] at h1
   repeat' (first
  | ((first | refine zag ?_ | refine zaj ?_ | fail); simp [hx, hca])
  | (refine ⟨by omega, ?_⟩)
  | ((first | refine zah ?_ | refine zai ?_ | refine zaq ?_ | fail); simp [hx, hca])
  | (refine zap ?_; simp only [zan])
  | (refine ⟨?_, by omega⟩)
  | (intro hc <;> (try (exfalso; omega)))
  | (refine CallP.fE (h1) (by first | rfl | fail) (by first | simp [hx, hca] <;> rfl | fail) ?_; (try simp [hcl, hx, hca]))
  | fail)
   refine LoopW.next ⟨i + 1, by omega, za7 hx hb hp⟩ (by simp; omega) ?_
   exact (Wk.env rfl rfl rfl (by simp [wkE, St.lp, zal, zaa, getK] <;> (try (intros; simp_all; done)) <;> (try (intros; omega)) <;> (try grind)))
  ·rw [hp] at h1
   repeat' (first
  | ((first | refine zag ?_ | refine zaj ?_ | refine zah ?_ | refine zai ?_ | fail); simp [hx, hca])
  | ((first | refine zar ?_ | refine zap ?_ | fail); simp only [zan])
  | (refine ⟨?_, by omega⟩)
  | (intro hc <;> (try (exfalso; omega)))
  | (refine CallP.fE (h1) (by first | rfl | fail) (by first | simp [hx, hca] <;> rfl | fail) ?_; (try simp [hcl, hx, hca]))
  | fail)
   (refine EndOK.val (.inr rfl) ?_; simp [zaK, zaf, zas, Tryz.results272])
   rw [ze2 hb hx hp];omega
theorem zjr (l : List (Exp)) (f : FuncId) (caps : List U) (p : Exp -> Bool) (hf : ∀ n ∈ l, Fun Tryz.prog f (zeD n :: caps.map .u) (· = .u (.bool (p n)))) (hcl : zak Tryz.prog f = true)
  (hca : ∀ o, zcp o (caps.map .u) = some (caps.map .u, [])) (hcb : ∀ o, zbN o (caps.map .u) = some (caps, [])) : Fun Tryz.prog 214 [.u (zsj l), .fnc (.func f) (caps.map .u)] (· = .u (.bool (l.any p))) := by
 have h1 := zmV l f caps p hf hcl hca
 (refine Fun.of_body Tryz.func214 rfl (by simp) fun Γ hn => ?_); simp only [entry, ziC, ziN, maC, maN, oA, Tryz.ntmps214]
 simp only [zsj] at h1 ⊢
 repeat' (first
  | ((first | refine zag ?_ | refine zaj ?_ | refine zah ?_ | fail); simp [hcb])
  | (refine zar ?_; simp only [zan])
  | (refine CallP.fE (h1) (by first | rfl | fail) (by first | simp [hcb] <;> rfl | fail) ?_; (try simp [hcl, hcb]))
  | fail)
 (refine EndOK.val (.inr rfl) ?_; simp [zaK, zaf, zas, Tryz.results214])
 have h2 := zeB p l 0 (by omega);rw [Bool.eq_iff_iff];simpa using h2
def zt1 (e : Exp) : Bool := decide (e.s = []) && decide (0 <= e.unit) && decide (e.unit < 5) && decide (0 <= e.n) && decide (e.n <= if e.unit = 0 then 1 else 1099511627776)
def zbB : Nat -> Exp -> Bool
 | 0, _ => false
 | d + 1, e => decide ((e.args.length : Int) = zcm e.op) && (if e.op = 0 then zt1 e else if e.n ≠ 0 \/ e.unit ≠ 0 then false else if e.op = 1 then zeA e.s else decide (e.s = []) && !e.args.any (fun x => !zbB d x))
set_option maxRecDepth 100000 in
set_option maxHeartbeats 4000000 in
theorem zfU : ∀ (d : Nat) (e : Exp), (d : Int) <= 100 -> Fun Tryz.prog 150 [zeD e, .u (.int .i64 d)] (· = .u (.bool (zbB d e)))
 | 0, e, _ => by
  (refine Fun.of_body Tryz.func150 rfl (by simp) fun Γ hn => ?_); simp only [entry, ziC, ziN, maC, maN, oA, Tryz.ntmps150]
  simp only [zeD]
  repeat' (first
  | ((first | refine zag ?_ | refine zb6 ?_ | refine zaj ?_ | refine zah ?_ | refine zai ?_ | fail); simp)
  | (refine zcR ?_)
  | (refine hk _ ?_; clear hk k; simp only [zan])
  | (refine zb5 rfl (by kernel_rfl) (by kernel_rfl) fun k hk => ?_; simp)
  | (refine zd4 rfl (by simp) (fun hc => ?_) (fun hc => ?_) <;> (try simp at hc) <;> (try (exfalso; omega)) <;> (try simp))
  | (refine zar ?_; simp only [zan])
  | fail)
  (refine EndOK.val (.inr rfl) ?_; simp [zaK, zaf, zas, Tryz.results150])
  rfl
 | d + 1, e, hd => by
  have hr : ∀ x : Exp, Fun Tryz.prog 215 (zeD x :: [U.row [.int .i64 ((d + 1 : Nat) : Int)] 0].map .u) (· = .u (.bool (!zbB d x))) := fun x => by
   have h1 := zfU d x (by omega)
   (refine Fun.of_body Tryz.func215 rfl (by simp) fun Γ hn => ?_); simp only [entry, ziC, ziN, maC, maN, oA, Tryz.ntmps215]
   simp only [zeD] at h1 ⊢
   repeat' (first
  | ((first | refine zag ?_ | refine zaj ?_ | fail); simp)
  | (refine ⟨by omega, ?_⟩)
  | (refine zah ?_; simp)
  | (refine zar ?_; simp only [zan])
  | (refine CallP.fE (h1) (by first | rfl | fail) (by first | (simp; done) | (simp; rfl) | fail) ?_; (try simp))
  | fail)
   (refine EndOK.val (.inr rfl) ?_; simp [zaK, zaf, zas, Tryz.results215])
  have hcon := zjr e.args 215 [U.row [.int .i64 ((d + 1 : Nat) : Int)] 0] (fun x => !zbB d x) (fun x _ => hr x) (by simp) (fun _ => rfl) (fun _ => rfl);have hnam := zgX e.s;have hopr := zj3 e.op;simp only [List.map_cons, List.map_nil] at hcon;rw [zbB];unfold zt1;generalize (e.args.any fun x => !zbB d x) = z at hcon ⊢;generalize zeA e.s = nm at hnam ⊢;generalize hop : zcm e.op = oi at hopr ⊢
  (refine Fun.of_body Tryz.func150 rfl (by simp) fun Γ hn => ?_); simp only [entry, ziC, ziN, maC, maN, oA, Tryz.ntmps150]
  rw [zrC] at hcon;simp only [zeD];by_cases hlen : (e.args.length : Int) = oi
  case neg =>
   repeat' (first
  | ((first | refine zag ?_ | refine zb6 ?_ | refine zaj ?_ | refine zah ?_ | refine zai ?_ | fail); simp [hlen])
  | (refine zcR ?_)
  | (refine hk _ ?_; clear hk k; simp only [zan])
  | (refine zb5 rfl (by kernel_rfl) (by kernel_rfl) fun k hk => ?_; simp [hlen])
  | (refine zd4 rfl (by simp [hlen]) (fun hc => ?_) (fun hc => ?_) <;> (try simp [hlen] at hc) <;> (try (exfalso; omega)) <;> (try simp [hlen]))
  | (refine zar ?_; simp only [zan])
  | (refine CallV.fun_ (hopr) (by first | rfl | fail) (by first | simp [hlen] <;> rfl | fail) ?_ <;> (try simp [hlen]))
  | fail)
   (refine EndOK.val (.inr rfl) ?_; simp [zaK, zaf, zas, Tryz.results150])
   try (simp_all; done)
  by_cases h0 : e.op = 0
  case pos =>
   by_cases hu : e.unit = 0
   all_goals
    repeat' (first
  | ((first | refine zag ?_ | refine zb6 ?_ | refine zaj ?_ | refine zah ?_ | refine zai ?_ | fail); simp [hlen, h0, hu])
  | (refine zcR ?_)
  | (refine hk _ ?_; clear hk k; simp only [zan])
  | (refine zb5 rfl (by kernel_rfl) (by kernel_rfl) fun k hk => ?_; simp [hlen, h0, hu])
  | (refine zd4 rfl (by simp [hlen, h0, hu]) (fun hc => ?_) (fun hc => ?_) <;> (try simp [hlen, h0, hu] at hc) <;> (try (exfalso; omega)) <;> (try simp [hlen, h0, hu]))
  | (refine zaq ?_; simp [hlen, h0, hu])
  | ((first | refine zar ?_ | refine zap ?_ | fail); simp only [zan])
  | (refine ⟨fun hc => ?_, fun hc => ?_⟩ <;> (try (exfalso; omega)))
  | (refine CallV.fun_ (hopr) (by first | rfl | fail) (by first | simp [hlen, h0, hu] <;> rfl | fail) ?_ <;> (try simp [hlen, h0, hu]))
  | fail)
    all_goals
     (refine EndOK.val (.inr rfl) ?_; simp [zaK, zaf, zas, Tryz.results150])
   all_goals clear hr hopr hcon hnam
   all_goals grind
  by_cases hnu : e.n ≠ 0 \/ e.unit ≠ 0
  case pos =>
   repeat' (first
  | ((first | refine zag ?_ | refine zb6 ?_ | refine zaj ?_ | refine zah ?_ | refine zai ?_ | fail); simp [hlen, h0])
  | (refine zcR ?_)
  | (refine hk _ ?_; clear hk k; simp only [zan])
  | (refine zb5 rfl (by kernel_rfl) (by kernel_rfl) fun k hk => ?_; simp [hlen, h0])
  | (refine zd4 rfl (by simp [hlen, h0]) (fun hc => ?_) (fun hc => ?_) <;> (try simp [hlen, h0] at hc) <;> (try (exfalso; omega)) <;> (try simp [hlen, h0]))
  | ((first | refine zar ?_ | refine zap ?_ | fail); simp only [zan])
  | (refine ⟨?_, by omega⟩)
  | (refine ⟨fun hc => ?_, fun hc => ?_⟩ <;> (try (exfalso; omega)))
  | (intro hc <;> (try (exfalso; omega)))
  | (refine CallV.fun_ (hopr) (by first | rfl | fail) (by first | simp [hlen, h0] <;> rfl | fail) ?_ <;> (try simp [hlen, h0]))
  | fail)
   all_goals
    (refine EndOK.val (.inr rfl) ?_; simp [zaK, zaf, zas, Tryz.results150])
   all_goals clear hr hopr hcon hnam
   all_goals grind
  by_cases h1 : e.op = 1
  case pos =>
   repeat' (first
  | ((first | refine zag ?_ | refine zb6 ?_ | refine zaj ?_ | fail); simp [hlen, h0, h1])
  | (refine ⟨by omega, ?_⟩)
  | ((first | refine zah ?_ | refine zai ?_ | fail); simp [hlen, h0, h1])
  | (refine zcR ?_)
  | (refine hk _ ?_; clear hk k; simp only [zan])
  | (refine zb5 rfl (by kernel_rfl) (by kernel_rfl) fun k hk => ?_; simp [hlen, h0, h1])
  | (refine zd4 rfl (by simp [hlen, h0, h1]) (fun hc => ?_) (fun hc => ?_) <;> (try simp [hlen, h0, h1] at hc) <;> (try (exfalso; omega)) <;> (try simp [hlen, h0, h1]))
  | ((first | refine zar ?_ | refine zap ?_ | fail); simp only [zan])
  | (refine ⟨?_, by omega⟩)
  | (intro hc <;> (try (exfalso; omega)))
  | (refine CallV.fun_ (hopr) (by first | rfl | fail) (by first | simp [hlen, h0, h1] <;> rfl | fail) ?_ <;> (try simp [hlen, h0, h1]))
  | (refine CallP.fE (hnam) (by first | rfl | fail) (by first | simp [hlen, h0, h1] <;> rfl | fail) ?_; (try simp [hlen, h0, h1]))
  | fail)
   all_goals
    (refine EndOK.val (.inr rfl) ?_; simp [zaK, zaf, zas, Tryz.results150])
   all_goals clear hr hopr hcon hnam
   all_goals grind
  by_cases hs : e.s = []
  all_goals
   repeat' (first
  | ((first | refine zag ?_ | refine zb6 ?_ | refine zaj ?_ | fail); simp [hlen, h0, h1, hs])
  | (refine ⟨by omega, ?_⟩)
  | ((first | refine zah ?_ | refine zai ?_ | fail); simp [hlen, h0, h1, hs])
  | (refine zcR ?_)
  | (refine hk _ ?_; clear hk k; simp only [zan])
  | (refine zb5 rfl (by kernel_rfl) (by kernel_rfl) fun k hk => ?_; simp [hlen, h0, h1, hs])
  | (refine zd4 rfl (by simp [hlen, h0, h1, hs]) (fun hc => ?_) (fun hc => ?_) <;> (try simp [hlen, h0, h1, hs] at hc) <;> (try (exfalso; omega)) <;> (try simp [hlen, h0, h1, hs]))
  | ((first | refine zar ?_ | refine zap ?_ | fail); simp only [zan])
  | (refine ⟨?_, by omega⟩)
  | (intro hc <;> (try (exfalso; omega)))
  | (refine CallV.fun_ (hopr) (by first | rfl | fail) (by first | simp [hlen, h0, h1, hs] <;> rfl | fail) ?_ <;> (try simp [hlen, h0, h1, hs]))
  | (refine CallP.fE (hcon) (by first | rfl | fail) (by first | simp [hlen, h0, h1, hs] <;> rfl | fail) ?_; (try simp [hlen, h0, h1, hs]))
  | fail)
   all_goals
    (refine EndOK.val (.inr rfl) ?_; simp [zaK, zaf, zas, Tryz.results150])
  all_goals clear hr hopr hcon hnam
  all_goals grind
theorem zeT (e : Exp) : Fun Tryz.prog 89 [zeD e] (· = .u (.bool (zbB 12 e))) := by
 have h1 := zfU 12 e (by omega)
 (refine Fun.of_body Tryz.func89 rfl (by simp) fun Γ hn => ?_); simp only [entry, ziC, ziN, maC, maN, oA, Tryz.ntmps89]
 simp only [zeD] at h1 ⊢
 repeat' (first
  | ((first | refine zag ?_ | refine zaj ?_ | refine zah ?_ | fail); simp)
  | (refine zar ?_; simp only [zan])
  | (refine CallP.fE (h1) (by first | rfl | fail) (by first | (simp; done) | (simp; rfl) | fail) ?_; (try simp))
  | fail)
 (refine EndOK.val (.inr rfl) ?_; simp [zaK, zaf, zas, Tryz.results89])
def zmY (n : Int) : D := .u (.int .i64 n)
def ints (l : List Int) : U := .sl (l.map fun n => [.int .i64 n])
theorem zgq (l : List (Int)) (f : FuncId) (caps : List U) (p : Int -> Bool) (hf : ∀ n ∈ l, Fun Tryz.prog f (zmY n :: caps.map .u) (· = .u (.bool (p n)))) (hcl : zak Tryz.prog f = true)
  (hca : ∀ o, zcp o (caps.map .u) = some (caps.map .u, [])) : Fun Tryz.prog 147 [.u (ints l), .fnc (.func f) (caps.map .u)] (· = .u (.int .i64 (zfj p l 0))) := by
 (refine Fun.of_body Tryz.func147 rfl (by simp) fun Γ hn => ?_); simp only [entry, ziC, ziN, maC, maN, oA, Tryz.ntmps147]
 simp only [ints];refine zgR (x := 0) rfl fun hl => ?_;simp at hl
 repeat' (first
  | ((first | refine zag ?_ | refine zaj ?_ | refine zah ?_ | refine zaA ?_ | fail); simp)
  | fail)
 refine zb2 (α := { i : Nat // i <= l.length /\ ∀ c ∈ l.take i, p c = false }) [0, 1, 7] (fun i => [(8, .u (.int .i64 i.1))]) (fun i => l.length - i.1) ⟨0, by omega, by simp⟩ ?_ ?_
 ·exact (Wk.env rfl rfl rfl (by simp [wkE, St.lp, zal, zaa, getK] <;> (try (intros; simp_all; done)) <;> (try (intros; omega)) <;> (try grind)))
 rintro ⟨i, hi, hb⟩;simp [St.lp, St.only, zal, zaa, getK];rcases hx : l[i]? with _ | n
 ·have hge : l.length <= i := by simpa using hx
  repeat' (first
  | ((first | refine zag ?_ | refine zaj ?_ | fail); simp [hx])
  | (refine ⟨by omega, ?_⟩)
  | (refine zah ?_; simp [hx])
  | (refine zar ?_; simp only [zan])
  | (refine zaZ ?_; simp [zan])
  | (intro hc <;> (try (exfalso; omega)))
  | fail)
  (refine EndOK.val (.inr rfl) ?_; simp [zaK, zaf, zas, Tryz.results147])
  rw [List.take_of_length_le hge] at hb;exact (zdA hb).symm
 ·have hlt : i < l.length := (lGE.1 hx).1;have h1 := hf n (List.mem_of_getElem? hx);simp only [zmY] at h1;cases hp : p n
  ·rw [hp] at h1
   repeat' (first
  | ((first | refine zag ?_ | refine zaj ?_ | fail); simp [hx, hca])
  | (refine ⟨by omega, ?_⟩)
  | ((first | refine zah ?_ | refine zai ?_ | refine zaq ?_ | fail); simp [hx, hca])
  | (refine zap ?_; simp only [zan])
  | (refine ⟨?_, by omega⟩)
  | (intro hc <;> (try (exfalso; omega)))
  | (refine CallP.fE (h1) (by first | rfl | fail) (by first | simp [hx, hca] <;> rfl | fail) ?_; (try simp [hcl, hx, hca]))
  | fail)
   refine LoopW.next ⟨i + 1, by omega, za7 hx hb hp⟩ (by simp; omega) ?_
   exact (Wk.env rfl rfl rfl (by simp [wkE, St.lp, zal, zaa, getK] <;> (try (intros; simp_all; done)) <;> (try (intros; omega)) <;> (try grind)))
  ·rw [hp] at h1
   repeat' (first
  | ((first | refine zag ?_ | refine zaj ?_ | refine zah ?_ | refine zai ?_ | fail); simp [hx, hca])
  | ((first | refine zar ?_ | refine zap ?_ | fail); simp only [zan])
  | (refine ⟨?_, by omega⟩)
  | (intro hc <;> (try (exfalso; omega)))
  | (refine CallP.fE (h1) (by first | rfl | fail) (by first | simp [hx, hca] <;> rfl | fail) ?_; (try simp [hcl, hx, hca]))
  | fail)
   (refine EndOK.val (.inr rfl) ?_; simp [zaK, zaf, zas, Tryz.results147])
   rw [ze2 hb hx hp];omega
theorem zeG (l : List (Int)) (f : FuncId) (caps : List U) (p : Int -> Bool) (hf : ∀ n ∈ l, Fun Tryz.prog f (zmY n :: caps.map .u) (· = .u (.bool (p n)))) (hcl : zak Tryz.prog f = true)
  (hca : ∀ o, zcp o (caps.map .u) = some (caps.map .u, [])) (hcb : ∀ o, zbN o (caps.map .u) = some (caps, [])) : Fun Tryz.prog 82 [.u (ints l), .fnc (.func f) (caps.map .u)] (· = .u (.bool (l.any p))) := by
 have h1 := zgq l f caps p hf hcl hca
 (refine Fun.of_body Tryz.func82 rfl (by simp) fun Γ hn => ?_); simp only [entry, ziC, ziN, maC, maN, oA, Tryz.ntmps82]
 simp only [ints] at h1 ⊢
 repeat' (first
  | ((first | refine zag ?_ | refine zaj ?_ | refine zah ?_ | fail); simp [hcb])
  | (refine zar ?_; simp only [zan])
  | (refine CallP.fE (h1) (by first | rfl | fail) (by first | simp [hcb] <;> rfl | fail) ?_; (try simp [hcl, hcb]))
  | fail)
 (refine EndOK.val (.inr rfl) ?_; simp [zaK, zaf, zas, Tryz.results82])
 have h2 := zeB p l 0 (by omega);rw [Bool.eq_iff_iff];simpa using h2
end Go.Proofs.YtepiegcjnaohjaaGreatDoor
