import Derived.Test.YtkdhmbhbbciedaaGreatDoorO2
import Derived.Sort.OwnSortedInts
import Derived.Recover
import Derived.LaidMore
import Derived.LaidLaws
import Derived.LaidHandle
import Derived.MakeChecks
import Derived.Stop.Joined
import Derived.OpenShut
set_option linter.all false
set_option maxRecDepth 100000
set_option maxHeartbeats 8000000
namespace Go.VL
open Go
abbrev zez := Nat × Key × List D
def zih (o : List (Nat × Ob)) (e : zez) : List (Nat × Ob) := match getK o e.1 with | some (.map kk ag es) => zcb o e.1 (.map kk ag (zdm es e.2.1 e.2.2)) | _ => o
def zgv : List zez -> List (Nat × Ob) -> List (Nat × Ob)
 | [], o => o
 | e :: L, o => zgv L (zih o e)
def obE (e : zez) (x : Option Ob) : Option Ob := match x with | some (.map kk ag es) => some (.map kk ag (zdm es e.2.1 e.2.2)) | x => x
def zlF : List zez -> Nat -> Option Ob -> Option Ob
 | [], _, x => x
 | e :: L, z, x => zlF L z (if z = e.1 then obE e x else x)
theorem zgi {α β : Type} {f g : α -> Option β} : ∀ {l : List α}, (∀ x ∈ l, f x = g x) -> l.filterMap f = l.filterMap g
 | [], _ => rfl
 | a :: l, h => by rw [List.filterMap_cons, List.filterMap_cons, h a (by simp), zgi fun x hx => h x (by simp [hx])]
theorem zcF : ∀ (L : List zez) (o : List (Nat × Ob)) (z : Nat), getK (zgv L o) z = zlF L z (getK o z)
 | [], _, _ => rfl
 | e :: L, o, z => by
  rw [zgv, zcF L, zlF]
  congr 1
  unfold zih obE;by_cases hz : z = e.1
  ·subst hz;rw [if_pos rfl];cases hg : getK o e.1 with
   | none => exact hg
   | some ob => cases ob <;> simp [hg, zad, zaa]
  ·rw [if_neg hz];cases hg : getK o e.1 with
   | none => rfl
   | some ob => cases ob <;> simp [zad, zaa, hz]
theorem zej : ∀ {L : List zez} {z : Nat} {x : Option Ob}, (∀ e ∈ L, e.1 ≠ z) -> zlF L z x = x
 | [], _, _, _ => rfl
 | e :: L, z, x, h => by
  rw [zlF, if_neg (fun q => h e (by simp) q.symm)];exact zej fun e he => h e (by simp [he])
theorem zhZ : ∀ (L : List zez) (e : zez) (z : Nat) (x : Option Ob), zlF (L ++ [e]) z x = zlF [e] z (zlF L z x)
 | [], _, _, _ => rfl
 | a :: L, e, z, x => by rw [List.cons_append, zlF, zhZ L e]; rfl
theorem zjH : ∀ (L : List zez) (z : Nat) (kk : KK) (ag : Bool) (es : List (Key × List D)), ∃ es', zlF L z (some (.map kk ag es)) = some (.map kk ag es')
 | [], _, _, _, es => ⟨es, rfl⟩
 | e :: L, z, kk, ag, es => by
  rw [zlF];split
  ·exact zjH L z kk ag _
  ·exact zjH L z kk ag es
def zt7 (z : Nat) (L : List zez) : List (Key × List D) := L.filterMap fun e => if e.1 = z then some (e.2.1, e.2.2) else none
theorem zhh {z : Nat} {kk : KK} {ag : Bool} : ∀ (L : List zez) (es : List (Key × List D)), L.Pairwise (fun a b => a.1 = b.1 -> a.2.1 ≠ b.2.1) -> (∀ e ∈ L, e.1 = z -> ∀ p ∈ es, p.1 ≠ e.2.1) -> zlF L z (some (.map kk ag es)) = some (.map kk ag (es ++ zt7 z L))
 | [], es, _, _ => by simp [zlF, zt7]
 | e :: L, es, hp, h => by
  rw [List.pairwise_cons] at hp;rw [zlF];by_cases hz : z = e.1
  ·rw [if_pos hz];unfold obE;simp only;rw [zht (h e (by simp) hz.symm), zhh L _ hp.2 fun a ha haz p hp' => ?_]
   ·simp [zt7, hz]
   ·rcases List.mem_append.1 hp' with hp' | hp'
    ·exact h a (by simp [ha]) haz p hp'
    ·simp at hp';subst hp';exact hp.1 a ha (by rw [<- hz, haz])
  ·rw [if_neg hz, zhh L _ hp.2 fun a ha haz p hp' => h a (by simp [ha]) haz p hp'];simp [zt7, Ne.symm hz]
def stX (ops : List Oper) (T : Nat -> D) (W : Nat -> Wr) (s : St) (M : Nat) (S : Nat -> Bool) (L : List zez) : St :=
 { stW ops T W s M S with obs := zgv L (stW ops T W s M S).obs }
def InsOK (P : Program) (st : St) (op : Op) (e : zez) : Prop :=
 ∃ t x ki v kk ag z ku, (op = .mapUpdate t x ki v \/ op = .insert t x ki v) /\ zeh P t = some (kk, ag, z) /\ opd st x = .mp e.1 /\ opd st ki = .u ku /\ zeD ku = some e.2.1 /\ e.2.1.kk = kk /\ zeo ag (opd st v) = some e.2.2 /\ getK st.obs e.1 = some (.map kk ag [])
theorem InsOK.base {P st op e} (h : InsOK P st op e) : ∃ kk ag, getK st.obs e.1 = some (.map kk ag []) := by
 obtain ⟨t, x, ki, v, kk, ag, z, ku, _, _, _, _, _, _, _, h⟩ := h;exact ⟨kk, ag, h⟩
theorem Sat.permO {k own o o' w} (h : Sat k own o w) (e : ∀ z, getK o' z = getK o z \/ ∃ kk ag es es', getK o z = some (.map kk ag es) /\ getK o' z = some (.map kk ag es') /\ es.Perm es') : Sat k own o' w := by
 have conv : ∀ z ob, getK o' z = some ob -> ∃ ob0, getK o z = some ob0 := fun z ob hz => by
  rcases e z with h1 | ⟨kk, ag, es, es', h1, h2, h3⟩
  ·exact ⟨ob, by rw [<- h1]; exact hz⟩
  ·exact ⟨_, h1⟩
 refine ⟨h.mem, fun i ob hi => ?_, fun i j x y g g' b hi hj => ?_⟩
 ·rcases e i with h1 | ⟨kk, ag, es, es', h1, h2, h3⟩
  ·exact h.ob i ob (by rw [<- h1]; exact hi)
  ·rw [h2] at hi;cases hi;obtain ⟨g, g1, g2, b, ents, clock, es0, g3, g4, g5, g6⟩ := h.ob i _ h1;exact ⟨g, g1, g2, b, ents, clock, es0, g3, g4, g5.trans h3, g6⟩
 ·obtain ⟨x', hx⟩ := conv i x hi;obtain ⟨y', hy⟩ := conv j y hj;exact h.apart i j x' y' g g' b hx hy
theorem zeJ {L L' : List zez} (hp : L.Perm L') (h : L.Pairwise fun a b => a.1 = b.1 -> a.2.1 ≠ b.2.1) : L'.Pairwise fun a b => a.1 = b.1 -> a.2.1 ≠ b.2.1 :=
 hp.pairwise h fun q e => (q e.symm).symm
theorem Sat.permL {k own w} {L L' : List zez} {o : List (Nat × Ob)} (h : Sat k own (zgv L o) w) (hp : L.Perm L') (hd : L.Pairwise fun a b => a.1 = b.1 -> a.2.1 ≠ b.2.1) (hb : ∀ e ∈ L, ∃ kk ag, getK o e.1 = some (.map kk ag [])) : Sat k own (zgv L' o) w := by
 refine h.permO fun z => ?_;rw [zcF, zcF];by_cases hz : ∃ e ∈ L, e.1 = z
 ·obtain ⟨e, he, rfl⟩ := hz;obtain ⟨kk, ag, hg⟩ := hb e he;rw [hg, zhh L [] hd (by simp), zhh L' [] (zeJ hp hd) (by simp)];exact .inr ⟨kk, ag, _, _, rfl, rfl, by simpa [zt7] using hp.filterMap _⟩
 ·have h1 : ∀ e ∈ L, e.1 ≠ z := fun e he q => hz ⟨e, he, q⟩;rw [zej h1, zej fun e he => h1 e (hp.mem_iff.2 he)];exact .inl rfl
theorem zlX {P : Program} {Γ : Ctx} {o : Oper} {s : St} {t : TypeId} {x i v : Operand} {m : Nat} {kk : KK} {ag : Bool} {z : List U} {ku : U} {ky : Key} {cells : List D} {es : List (Key × List D)} (ho : o.op = .mapUpdate t x i v \/ o.op = .insert t x i v) (hd : o.dst = none)
  (hinf : zeh P t = some (kk, ag, z)) (hx : opd s x = .mp m) (hi : opd s i = .u ku) (hg : getK s.obs m = some (.map kk ag es)) (hky : zeD ku = some ky) (hkk2 : ky.kk = kk) (hvm : zeo ag (opd s v) = some cells) {K : Kr} {a : Act} {w : World} (hin : In Γ K w) (hs : Sim K Γ.own s a w) :
  ∃ w', (execOp a.eval o).run P w = .ok .skip w' /\ In Γ K w' /\ Sim K Γ.own { s with obs := zcb s.obs m (.map kk ag (zdm es ky cells)) } (a.put o.dst undef) w' := by
 obtain ⟨kt, e, hu, hkk, _⟩ := zeg hinf;obtain ⟨b, c, ents, clock, es0, hh, hown, hheap, hpm, hm, hno⟩ := (hs.sat.ob m _ hg).map;have hrx := zaJ hs x;rw [hx] at hrx;obtain ⟨b', c', hh', hxv⟩ := ziL hrx;rw [hh] at hh';cases hh';have hri := zaJ hs i;rw [hi] at hri;have hiv : a.eval i = ky.val := by cases hri with | u _ _ hri => exact zhf hky hri
 obtain ⟨ents', clock', hrun, hm'⟩ := ziR (w := w) hu hkk hkk2 hm hheap (zmA hvm (zaJ hs v));have hrun' : (execOp a.eval o).run P w = .ok .skip (w.putMap b ents' clock') := by
  obtain ⟨dst, op, type, pos, after, guard⟩ := o;simp only at ho;rcases ho with rfl | rfl
  ·simp [execOp, hxv, hiv, hrun]
  ·simp [execOp, hxv, hiv, hrun]
 have hsame := MapKept.heap_set (o' := .map ents' clock') hheap;have hin' : In Γ K (w.putMap b ents' clock') := hin.step (.refl K) (fun _ _ _ e => .inl e) rfl rfl rfl (by simp [World.putMap]) (fun b' hb' => hsame.2 b' fun e => hb' (by rw [e]; exact hown));refine ⟨_, hrun', hin', ?_⟩;rw [hd];exact ⟨Sat.congr (Sat.set (h := (some b, c)) hs.sat hg hh (fun b' hb' => hsame.2 b' fun e => hb' (by rw [e])) (ob' := .map kk ag (zdm es ky cells)) ⟨b, ents', clock', _, rfl, hsame.1, zkj hpm hm.once, hm'⟩) (zad _ _ _), hs.defers, hs.size, hs.env, hs.hdr⟩
theorem zp1 {ops : List Oper} (hord : zij ops = true) : ∀ {n i j : Nat}, zey ops n i j = true -> i < j
 | 0, _, _, h => by cases h
 | n + 1, i, j, h => by
  unfold zey at h;split at h
  ·rename_i o ho;rw [List.any_eq_true] at h;obtain ⟨p, hp, hpi⟩ := h;have hlt := (zeu hord ho).1 p hp;simp only [Bool.or_eq_true, beq_iff_eq] at hpi;rcases hpi with rfl | hpi
   ·exact hlt
   ·have := zp1 hord hpi; omega
  ·cases h
theorem ziq {n i : Nat} {N : Nat -> Option zez} {S : Nat -> Bool} (h : N i = none) : ((List.range n).filterMap fun j => if (S j || j == i) = true then N j else none) = (List.range n).filterMap fun j => if S j = true then N j else none :=
 zgi fun j _ => by
  by_cases hj : j = i
  ·subst hj; simp [h]
  ·simp [hj]
theorem zjS {n i : Nat} {N : Nat -> Option zez} {S : Nat -> Bool} {L : List zez} {e : zez} (hp : L.Perm ((List.range n).filterMap fun j => if S j = true then N j else none)) (hi : i < n) (hS : S i = false) (h : N i = some e) :
  (L ++ [e]).Perm ((List.range n).filterMap fun j => if (S j || j == i) = true then N j else none) := by
 have : ∀ (l : List Nat), l.Nodup -> i ∈ l -> ((l.filterMap fun j => if S j = true then N j else none) ++ [e]).Perm (l.filterMap fun j => if (S j || j == i) = true then N j else none) := by
  intro l
  induction l with
  | nil => intro _ hm; cases hm
  | cons a l ih =>
   intro hnd hm;rw [List.nodup_cons] at hnd;by_cases ha : a = i
   ·subst ha;have hsame : (l.filterMap fun j => if (S j || j == a) = true then N j else none) = l.filterMap fun j => if S j = true then N j else none :=
     zgi fun j hj => by
           have : j ≠ a := fun q => hnd.1 (q ▸ hj);simp [this]
    simp only [List.filterMap_cons, hS, Bool.false_eq_true, if_false, Bool.false_or, beq_self_eq_true, if_true, h];rw [hsame];exact List.perm_append_comm
   ·have hm' : i ∈ l := by rcases List.mem_cons.1 hm with rfl | hm; exact absurd rfl ha; exact hm
    have := ih hnd.2 hm';have hai : (a == i) = false := by simp [ha]
    simp only [List.filterMap_cons, hai, Bool.or_false];split
    ·exact this
    ·exact this.cons _
 exact (hp.append_right [e]).trans (this _ List.nodup_range (List.mem_range.2 hi))
set_option maxHeartbeats 4000000 in
theorem zrM {P Γ} {Q : Exit -> St -> Prop} {kt : Kt} {id : Nat} {ops : List Oper} {T : Nat -> D} {W : Nat -> Wr} {cr : Nat -> Option Nat} {R : Nat -> List Nat} {N : Nat -> Option zez} {s : St} {M : Nat}
  (hm : P.follows .mixedOrders = true) (hord : zij ops = true) (hn0 : Γ.n0 <= s.next) (hM : s.next <= M)
  (hcr : ∀ i x, cr i = some x -> s.next <= x /\ x < M) (hcr1 : ∀ i j x, cr i = some x -> cr j = some x -> i = j)
  (hpair : ∀ i j, i < j -> j < ops.length -> zey ops ops.length i j = false -> (∀ y ∈ zdC (W i), y ∉ R j /\ y ∉ zdC (W j)) /\ ∀ y ∈ zdC (W j), y ∉ R i)
  (hins : ∀ i o e, ops[i]? = some o -> N i = some e -> W i = [] /\ cr i = none /\ o.guard = none /\ o.dst = none /\ InsOK P (stW ops T W s M fun j => decide (j < i)) o.op e)
  (hNR : ∀ i j e, i < ops.length -> j < ops.length -> N i = none -> N j = some e -> e.1 ∉ R i /\ (e.1 ∈ zdC (W i) -> zey ops ops.length i j = true))
  (hdist : ∀ i j e e', i ≠ j -> N i = some e -> N j = some e' -> e.1 = e'.1 -> e.2.1 ≠ e'.2.1)
  (hval : ∀ i o, ops[i]? = some o -> N i = none -> zaq o.dst s /\ OpG P ops.toArray (stW ops T W s M fun j => decide (j < i)) o (T i) (W i) (cr i) (R i))
  (hfin : ∃ s', (stX ops T W s M (fun _ => true) ((List.range ops.length).filterMap N)).Eqo s' /\ za3 P Γ Q kt .normal s') : V P Γ (.region id ops.toArray true) s (za3 P Γ Q kt) := by
 intro K a w hin hs;refine wp_region_any hm ?_;have hin0 : In Γ K { w with drawn := w.drawn + 1 } := ⟨hin.le, hin.none0, hin.memNew, hin.fresh, hin.os, hin.tape, hin.output, hin.size, hin.block⟩;have hs0 : Sim K Γ.own s a { w with drawn := w.drawn + 1 } := ⟨⟨hs.sat.mem, fun i ob hi => by
   obtain ⟨h, h1, h2, h3⟩ := hs.sat.ob i ob hi;exact ⟨h, h1, h2, h3.keep (.refl _) fun b e => rfl⟩, hs.sat.apart⟩, hs.defers, hs.size, hs.env, hs.hdr⟩
 generalize ({ w with drawn := w.drawn + 1 } : World) = w0 at hin0 hs0;have hLdist : ∀ L : List zez, L.Perm ((List.range ops.length).filterMap N) -> L.Pairwise fun a b => a.1 = b.1 -> a.2.1 ≠ b.2.1 := fun L hp => by
  refine zeJ hp.symm ?_;rw [List.pairwise_filterMap];refine List.nodup_range.imp fun {a b} hab e he e' he' hid => ?_;exact hdist a b e e' hab he he' hid
 have key : ∀ (fuel : Nat) (listed : Array Bool) (L : List zez) (K : Kr) (a : Act) (w : World), listed.size = ops.length -> (listed.toList.filter (! ·)).length <= fuel ->
   (∀ j y, ops[j]? = some y -> listed.getD j false = true -> ∀ p ∈ zdy y, listed.getD p false = true) -> In Γ K w -> Sim K Γ.own (stX ops T W s M (fun j => listed.getD j false) L) a w ->
   L.Perm ((List.range ops.length).filterMap fun j => if listed.getD j false = true then N j else none) ->
   (∀ j x, j < ops.length -> listed.getD j false = false -> cr j = some x -> K.hdr x = none) ->
   wpAny P .any ops.toArray (VPost Γ (za3 P Γ Q kt)) fuel listed a w := by
  have allDone : ∀ (listed : Array Bool) (L : List zez) (K : Kr) (a : Act) (w : World), (∀ j, j < ops.length -> listed.getD j false = true) -> In Γ K w -> Sim K Γ.own (stX ops T W s M (fun j => listed.getD j false) L) a w ->
    L.Perm ((List.range ops.length).filterMap fun j => if listed.getD j false = true then N j else none) ->
    ∃ K' s', In Γ K' w /\ Sim K' Γ.own s' a w /\ za3 P Γ Q kt .normal s' := fun listed L K a w hall hin hs hLp => by
   obtain ⟨s', he, hfin⟩ := hfin;have hLc : ((List.range ops.length).filterMap fun j => if listed.getD j false = true then N j else none) = (List.range ops.length).filterMap N :=
    zgi fun j hj => by rw [if_pos (hall j (List.mem_range.1 hj))]
   rw [hLc] at hLp;have h1 : Sim K Γ.own (stX ops T W s M (fun _ => true) L) a w := by
    refine hs.eqo ⟨rfl, fun x => ?_, rfl, fun x => ?_⟩
    ·simp only [stX, stW, zcF, zao];rw [zcs W _ (fun _ => true) x ops.length fun j hj _ => hall j hj]
    ·exact zc7 T _ _ x ops 0 s.env s.env rfl fun j o hj _ => by
      have hl := (List.getElem?_eq_some_iff.1 hj).1;simp only [Nat.zero_add];exact hall j hl
   ·refine ⟨K, _, hin, Sim.eqo (⟨h1.sat.permL hLp ?_ ?_, h1.defers, h1.size, h1.env, h1.hdr⟩ : Sim K Γ.own (stX ops T W s M (fun _ => true) ((List.range ops.length).filterMap N)) a w) he, hfin⟩
    ·exact hLdist _ hLp
    ·intro e he;obtain ⟨j, hj, hNj⟩ := List.mem_filterMap.1 (hLp.mem_iff.1 he);have hjl := List.mem_range.1 hj;obtain ⟨g1, g2, g3, g4, g5⟩ := hins j _ e (List.getElem?_eq_getElem hjl) hNj;obtain ⟨kk, ag, g6⟩ := g5.base;refine ⟨kk, ag, ?_⟩;rw [<- g6];simp only [stW, zao];rw [zcs W (fun _ => true) (fun q => decide (q < j)) e.1 ops.length fun q hq hk => ?_];have hqn : N q = none := by
      cases hN : N q with
      | none => rfl
      | some e' =>
       rw [(hins q _ e' (List.getElem?_eq_getElem hq) hN).1] at hk;cases hk
     have := zp1 hord ((hNR q j e hq hjl hqn hNj).2 hk);simp [this]
  have least : ∀ (listed : Array Bool), listed.size = ops.length -> ∀ i, i < ops.length -> listed.getD i false = false -> ∃ i0, i0 ∈ Region.ready .any ops.toArray listed := fun listed hsz i hi hu => by
   induction i using Nat.strongRecOn with
   | _ i ih =>
    have ho : ops[i]? = some ops[i] := List.getElem?_eq_getElem hi;by_cases hp : ∀ p ∈ zdy ops[i], listed.getD p false = true
    ·refine ⟨i, mem_ready.2 ⟨?_, ops[i], by simp, fun e he hb => hp e.on ?_⟩⟩
     ·have hi' : i < listed.size := by omega
      simp [hi'] at hu ⊢;exact hu
     ·simp only [zdy, List.mem_map, List.mem_filter];exact ⟨e, ⟨by simpa using he, hb⟩, rfl⟩
    ·simp only [Classical.not_forall] at hp;obtain ⟨p, hpm, hpu⟩ := hp;have hlt := (zeu hord ho).1 p hpm;exact ih p hlt (by omega) (by simpa using hpu)
  intro fuel
  induction fuel with
  | zero =>
   intro listed L K a w hsz hcnt hcl hin hs hLp _;have hall : ∀ j, j < ops.length -> listed.getD j false = true := fun j hj => by
    have hj' : j < listed.size := by omega
    have h0 : (listed.toList.filter (! ·)) = [] := List.eq_nil_of_length_eq_zero (by omega);have := (List.filter_eq_nil_iff.1 h0) listed[j] (by simp);simp only [Bool.not_eq_true', Bool.not_eq_false] at this;simp [hj', this]
   refine ⟨?_, .inl (allDone listed L K a w hall hin hs hLp)⟩;refine List.eq_nil_iff_forall_not_mem.2 fun i hi => ?_;obtain ⟨h1, o, ho, _⟩ := mem_ready.1 hi;have hl : i < ops.length := by
    have := (Array.getElem?_eq_some_iff.1 ho).1;simpa using this
   have := hall i hl;have hi' : i < listed.size := by omega
   simp [hi'] at h1 this;rw [h1] at this;cases this
  | succ fuel ih =>
   intro listed L K a w hsz hcnt hcl hin hs hLp hfr;refine ⟨fun hnil => .inl (allDone listed L K a w (fun j hj => ?_) hin hs hLp), fun i hi => ?_⟩
   ·cases hu : listed.getD j false with
    | true => rfl
    | false =>
     obtain ⟨i0, h0⟩ := least listed hsz j hj hu;rw [hnil] at h0;cases h0
   ·obtain ⟨hun, o, ho, hall⟩ := mem_ready.1 hi;have ho' : ops[i]? = some o := by simpa using ho
    have hil := (List.getElem?_eq_some_iff.1 ho').1;have hil' : i < listed.size := by omega
    have hunf : listed.getD i false = false := by simp [hil'] at hun ⊢; exact hun
    have hpred : ∀ p ∈ zdy o, listed.getD p false = true := fun p hp => by
     simp only [zdy, List.mem_map, List.mem_filter] at hp;obtain ⟨e, ⟨he, hb⟩, rfl⟩ := hp;exact hall e (by simpa using he) hb
    have bef1 : ∀ j, zey ops ops.length j i = true -> listed.getD j false = true := fun j hb => zeQ hcl _ j i o ho' hpred hb;have bef2 : ∀ j x, ops[j]? = some x -> zey ops ops.length i j = true -> listed.getD j false = false := fun j x hj hb => by
     cases hu : listed.getD j false with
     | false => rfl
     | true =>
      have := zeQ hcl _ i j x hj (hcl j x hj hu) hb;rw [hunf] at this;cases this
    have hLm : ∀ e ∈ L, ∃ j, j < ops.length /\ listed.getD j false = true /\ N j = some e := fun e he => by
     obtain ⟨j, hj, hNj⟩ := List.mem_filterMap.1 (hLp.mem_iff.1 he);split at hNj
     ·rename_i hl; exact ⟨j, List.mem_range.1 hj, hl, hNj⟩
     ·cases hNj
    have before : ∀ j x, ops[j]? = some x -> j < i -> zfd ops.toArray x o = true \/ zfd ops.toArray o x = true -> listed.getD j false = true := fun j x hj hlt hmm =>
     bef1 j ((zeu hord ho').2.2 j x hlt hj hmm)
    have behind : ∀ j x, ops[j]? = some x -> i < j -> zfd ops.toArray x o = true \/ zfd ops.toArray o x = true -> listed.getD j false = false := fun j x hj hlt hmm =>
     bef2 j x hj ((zeu hord hj).2.2 i o hlt ho' hmm.symm)
    have agree : ∀ t, t ∈ o.looksAt ops.toArray -> getK (zfe T (fun j => listed.getD j false) ops 0 s.env) t = getK (zfe T (fun j => decide (j < i)) ops 0 s.env) t := fun t ht => by
     refine zc7 T _ _ t ops 0 s.env s.env rfl fun j x hj hx => ?_;simp only [Nat.zero_add];have hmm : zfd ops.toArray x o = true := by simp [zfd, hx, ht]
     rcases Nat.lt_trichotomy j i with h | h | h
     ·rw [before j x hj h (.inl hmm)]; simp [h]
     ·subst h; rw [hunf]; simp
     ·rw [behind j x hj h (.inl hmm)]; simp; omega
    have hopd : ∀ x ∈ o.op.operands, opd (stW ops T W s M fun j => decide (j < i)) x = opd (stX ops T W s M (fun j => listed.getD j false) L) x := fun x hx => by
     cases x with
     | tmp t =>
      simp only [opd, St.at, stX, stW];rw [agree t (List.mem_append_left _ (List.mem_filterMap.2 ⟨.tmp t, by simpa using hx, rfl⟩))]
     | _ => rfl
    have hNn : ∀ j y, j < ops.length -> y ∈ zdC (W j) -> N j = none := fun j y hj hk => by
     cases hN : N j with
     | none => rfl
     | some e => rw [(hins j _ e (List.getElem?_eq_getElem hj) hN).1] at hk; cases hk
    have hloc0 : ∀ y, (y ∈ R i \/ (∃ e, N i = some e /\ y = e.1)) -> getK (stW ops T W s M fun j => decide (j < i)).obs y = getK (stW ops T W s M fun j => listed.getD j false).obs y := fun y hy => by
     simp only [stW, zao];rw [zcs W (fun j => decide (j < i)) (fun j => listed.getD j false) y ops.length fun j hj hk => ?_];rcases Nat.lt_trichotomy j i with h | h | h
     ·have hb : zey ops ops.length j i = true := by
       cases hb : zey ops ops.length j i with
       | true => rfl
       | false =>
               rcases hy with hy | ⟨e, hNe, rfl⟩
               ·exact absurd hy (((hpair j i h hil hb).1 y hk).1)
               ·have := (hNR j i e hj hil (hNn j _ hj hk) hNe).2 hk;rw [hb] at this;exact this
      rw [bef1 j hb];simp [h]
     ·subst h; rw [hunf]; simp
     ·have hb : zey ops ops.length i j = true := by
       cases hb : zey ops ops.length i j with
       | true => rfl
       | false =>
               rcases hy with hy | ⟨e, hNe, rfl⟩
               ·exact absurd hy ((hpair i j h hj hb).2 y hk)
               ·have := zp1 hord ((hNR j i e hj hil (hNn j _ hj hk) hNe).2 hk);omega
      rw [bef2 j _ (List.getElem?_eq_getElem hj) hb];simp; omega
    have hlast : ∀ y ∈ zdC (W i), ∀ j, j < ops.length -> i < j -> y ∈ zdC (W j) -> listed.getD j false = false := fun y hy j hj hlt hk => by
     have hb : zey ops ops.length i j = true := by
      cases hb : zey ops ops.length i j with
      | true => rfl
      | false => exact absurd hk ((hpair i j hlt hj hb).1 y hy).2
     exact bef2 j _ (List.getElem?_eq_getElem hj) hb
    have hS : (fun j => (listed.setIfInBounds i true).getD j false) = fun j => listed.getD j false || j == i := funext fun j => by
     by_cases hji : j = i
     ·subst hji; simp [hil']
     ·simp [Array.getElem?_setIfInBounds_ne (Ne.symm hji), hji]
    have henv : ∀ (x : Nat), o.dst = some x -> getK (zfe T (fun j => listed.getD j false || j == i) ops 0 s.env) x = some (T i) := fun x hdx =>
     zjU T _ i x ops 0 s.env i o ho' (by omega) hdx fun j o' hj hlt hd' => by
      rw [Nat.zero_add];exact behind j o' hj hlt (.inl (by simp [zfd, hd', hdx]))
    have henv' : ∀ (x : Nat), o.dst ≠ some x -> getK (zfe T (fun j => listed.getD j false || j == i) ops 0 s.env) x = getK (zfe T (fun j => listed.getD j false) ops 0 s.env) x := fun x hdx =>
     zc7 T _ (fun j => listed.getD j false) x ops 0 s.env s.env rfl fun j o' hj hd' => by
      simp only [Nat.zero_add];have : j ≠ i := fun e => by subst e; rw [ho'] at hj; cases hj; exact hdx hd'
      simp [this]
    have go : ∀ K' a' w' (L : List zez), In Γ K' w' -> Sim K' Γ.own (stX ops T W s M (fun j => listed.getD j false || j == i) L) a' w' ->
      L.Perm ((List.range ops.length).filterMap fun j => if (listed.getD j false || j == i) = true then N j else none) ->
      (∀ j x, j < ops.length -> (listed.getD j false || j == i) = false -> cr j = some x -> K'.hdr x = none) ->
      wpAny P .any ops.toArray (VPost Γ (za3 P Γ Q kt)) fuel (listed.setIfInBounds i true) a' w' := fun K' a' w' L h1 h2 hLq h3 => by
     have hS' : ∀ j, (listed.setIfInBounds i true).getD j false = (listed.getD j false || j == i) := fun j => congrFun hS j;refine ih (listed.setIfInBounds i true) L K' a' w' (by simp [hsz]) ?_ (fun j y hj hSj p hp => ?_) h1 (by rw [hS]; exact h2) (by simp only [hS']; exact hLq) (fun j x hj hu => h3 j x hj (by rw [<- hS']; exact hu))
     ·have cnt : ∀ (l : List Bool) (n : Nat), l[n]? = some false -> ((l.set n true).filter (! ·)).length + 1 = (l.filter (! ·)).length := by
       intro l
       induction l with
       | nil => intro n h; simp at h
       | cons b l ih =>
               intro n h;cases n with
               | zero => simp at h; subst h; simp
               | succ n =>
                have := ih n (by simpa using h);cases b <;> simp at this ⊢ <;> omega
      have := cnt listed.toList i (by
       rw [Array.getElem?_toList, Array.getElem?_eq_getElem hil'];simp [hil'] at hunf;rw [hunf])
      rw [Array.toList_setIfInBounds];omega
     ·rw [hS'] at hSj ⊢;simp only [Bool.or_eq_true, beq_iff_eq] at hSj ⊢;rcases hSj with hSj | rfl
      ·exact .inl (hcl j y hj hSj p hp)
      ·rw [ho'] at hj;cases hj;exact .inl (hpred p hp)
    cases hNi : N i with
    | some e0 =>
     obtain ⟨hW, hcn, hg, hd0, hok⟩ := hins i o e0 ho' hNi;obtain ⟨tt, x, ki, v, kk, ag, z, ku, hop, hinf, hx, hki, hkey, hkk, hvm, hg0⟩ := hok;rw [hopd x (by rcases hop with hop | hop <;> simp [hop, Op.operands])] at hx;rw [hopd ki (by rcases hop with hop | hop <;> simp [hop, Op.operands])] at hki;rw [hopd v (by rcases hop with hop | hop <;> simp [hop, Op.operands])] at hvm;have hcur : ∃ es, getK (stX ops T W s M (fun j => listed.getD j false) L).obs e0.1 = some (.map kk ag es) := by
      have h1 := hloc0 e0.1 (.inr ⟨e0, hNi, rfl⟩);rw [hg0] at h1;obtain ⟨es, h2⟩ := zjH L e0.1 kk ag [];refine ⟨es, ?_⟩;simp only [stX, zcF];rw [<- h2];exact congrArg _ h1.symm
     obtain ⟨es, hes⟩ := hcur;obtain ⟨w1, hrun, h1, h2⟩ := zlX hop hd0 hinf hx hki hes hkey hkk hvm hin hs;unfold wpOp;rw [ho];simp only;have hw : Region.wanted o (yielded ops.toArray a.tmps) = true := by simp [Region.wanted, hg]
     rw [if_pos hw];refine .inl ?_;unfold Oper.wp;rw [hrun];refine go K _ w1 (L ++ [e0]) h1 (h2.eqo ⟨rfl, fun y => ?_, rfl, fun y => ?_⟩) (zjS hLp hil hunf hNi) fun j x hj hu hc => ?_
     ·have hsame : getK (zeG W (fun j => listed.getD j false || j == i) ops.length) y = getK (zeG W (fun j => listed.getD j false) ops.length) y := zcs W _ _ y ops.length fun j hj hk => by
       by_cases hji : j = i
       ·subst hji; rw [hW] at hk; cases hk
       ·simp [hji]
      simp only [zad, zaa];simp only [stX, stW, zcF, zao, hsame, zhZ] at hes ⊢;by_cases hy : y = e0.1
      ·subst hy;rw [if_pos rfl, hes];simp [zlF, obE]
      ·rw [if_neg hy];simp [zlF, hy]
     ·simp only [stX, stW];exact (henv' y (by rw [hd0]; simp)).symm
     ·simp only [Bool.or_eq_false_iff] at hu;exact hfr j x hj hu.1 hc
    | none =>
    obtain ⟨hpo, hv⟩ := hval i o ho' hNi;have hloc : ∀ y ∈ R i, getK (stW ops T W s M fun j => decide (j < i)).obs y = getK (stX ops T W s M (fun j => listed.getD j false) L).obs y := fun y hy => by
     rw [hloc0 y (.inl hy)];simp only [stX, zcF];rw [zej fun e he => ?_];obtain ⟨j, hj, _, hNj⟩ := hLm e he;exact fun h => (hNR i j e hil hj hNi hNj).1 (h ▸ hy)
    have hLi : ∀ y ∈ zdC (W i), ∀ e ∈ L, e.1 ≠ y := fun y hy e he h => by
     obtain ⟨j, hj, hl, hNj⟩ := hLm e he;have hb := (hNR i j e hil hj hNi hNj).2 (by rw [h]; exact hy);have := bef2 j _ (List.getElem?_eq_getElem hj) hb;rw [hl] at this;cases this
    have hLp' : L.Perm ((List.range ops.length).filterMap fun j => if (listed.getD j false || j == i) = true then N j else none) := by
     rw [ziq hNi];exact hLp
    have next : W i = [] -> ∀ K' v w', In Γ K' w' -> K.le K' -> K'.hdr = K.hdr -> Sat K' Γ.own (stX ops T W s M (fun j => listed.getD j false) L).obs w' -> Rep K' (T i) v ->
      wpAny P .any ops.toArray (VPost Γ (za3 P Γ Q kt)) fuel (listed.setIfInBounds i true) (a.put o.dst v) w' := fun hW K' v w' h1 h2 h3 h4 h5 => by
     refine go K' _ w' L h1 ?_ hLp' fun j x hj hu hc => by
      rw [h3];simp only [Bool.or_eq_false_iff] at hu;exact hfr j x hj hu.1 hc
     have hdef : (a.put o.dst v).defers = Γ.own.dfr := by cases o.dst <;> exact hs.defers
     have hsize : (a.put o.dst v).tmps.size = s.n := by
      have hsz2 : a.tmps.size = s.n := hs.size;cases o.dst <;> simp [Act.put, hsz2]
     refine ⟨h4.eqo fun y => ?_, hdef, hsize, fun x d hx => ?_, fun j hj => by rw [h3]; exact hs.hdr j hj⟩
     ·simp only [stX, stW, zcF, zao];rw [zcs W (fun j => listed.getD j false) (fun j => listed.getD j false || j == i) y ops.length fun j hj hk => ?_];by_cases hji : j = i
      ·subst hji; rw [hW] at hk; cases hk
      ·simp [hji]
     ·simp only [stX, stW] at hx;by_cases hdx : o.dst = some x
      ·rw [henv x hdx] at hx;cases hx;have hlt : x < s.n := by rw [hdx] at hpo; exact hpo
       refine ⟨hlt, ?_⟩;have hsz' : a.tmps.size = s.n := hs.size;rw [hdx];simpa [Act.put, hsz', hlt] using h5
      ·rw [henv' x hdx] at hx;obtain ⟨g1, g2⟩ := hs.env x d hx;refine ⟨g1, ?_⟩
       have e : (a.put o.dst v).tmps.getD x undef = a.tmps.getD x undef := by
               cases hd : o.dst with
               | none => rfl
               | some y =>
                have hne : y ≠ x := fun e => hdx (by rw [hd, e]);simp [Act.put, Array.getElem?_setIfInBounds_ne hne]
       rw [e];exact g2.mono h2
    unfold wpOp;rw [ho];simp only;have two : (Region.wanted o (yielded ops.toArray a.tmps) = true /\ Op1 P (stW ops T W s M fun j => decide (j < i)) o.op o.dst (T i) (W i) (cr i) (R i)) \/ (Region.wanted o (yielded ops.toArray a.tmps) = false /\ T i = .un /\ W i = []) := by
     unfold OpG at hv;split at hv
     ·rename_i hg;exact .inl ⟨by simp [Region.wanted, hg], hv⟩
     ·rename_i j want hg;obtain ⟨t, ht, hv⟩ := hv;have lift : ∀ dd, getK (stW ops T W s M fun j => decide (j < i)).env t = some dd -> getK (stX ops T W s M (fun j => listed.getD j false) L).env t = some dd := fun dd hb => by
       simp only [stX, stW] at hb ⊢
       rw [agree t (by
               refine List.mem_append_right _ ?_;unfold zaH at ht;simp only [hg];rw [ht];simp)]
       exact hb
      rcases hv with ⟨b, hb, hv⟩ | ⟨hb, hv⟩
      ·have hb' := lift _ hb;obtain ⟨hlt, hr⟩ := hs.getK hb';have hbv := zdt hr
       have hyd : yielded ops.toArray a.tmps j = some b := by
               unfold yielded;unfold zaH at ht;rw [ht];simp only [Option.bind_some];have : a.tmps[t]? = some (.bool b) := by
                rw [Array.getElem?_eq_getElem hlt];simp [hlt] at hbv;rw [hbv]
               rw [this]
       by_cases hbw : b = want
       ·rw [if_pos hbw] at hv;exact .inl ⟨by simp [Region.wanted, hg, hyd, hbw], hv⟩
       ·rw [if_neg hbw] at hv;exact .inr ⟨by simp [Region.wanted, hg, hyd, hbw], hv.1, hv.2.1⟩
      ·have hb' := lift _ hb;obtain ⟨hlt, hr⟩ := hs.getK hb';have hbv := zdU hr
       have hyd : yielded ops.toArray a.tmps j = none := by
               unfold yielded;unfold zaH at ht;rw [ht];simp only [Option.bind_some];have : a.tmps[t]? = some undef := by
                rw [Array.getElem?_eq_getElem hlt];simp [hlt] at hbv;rw [hbv]
               rw [this]
               try rfl
       exact .inr ⟨by simp [Region.wanted, hg, hyd], hv.1, hv.2.1⟩
    rcases two with ⟨hw, hv⟩ | ⟨hw, hv⟩
    ·rw [if_pos hw];rcases hv with ⟨hv, hW, hcn, hR⟩ | ⟨e, he, hR, hcase⟩
     ·replace hv := zha (s := stW ops T W s M fun j => decide (j < i)) (s' := stX ops T W s M (fun j => listed.getD j false) L) (by rw [<- hR]; exact hloc) hopd hv
      exact .inl (zmC hv hin hs fun K' v w' h1 h2 h3 h4 h5 => next hW K' v w' h1 h2 h3 h4 h5)
     ·
      replace he := zew (s := stW ops T W s M fun j => decide (j < i)) (s' := stX ops T W s M (fun j => listed.getD j false) L) (by rw [<- hR]; exact hloc) hopd he
      let un : Nat -> Prop := fun y => ∃ j, j < ops.length /\ (listed.getD j false || j == i) = false /\ cr j = some y
      let ρ : Nat -> Nat := fun y => open Classical in if cr i = some y then M else if un y then M + 1 + y else y
      have hknown : ∀ y h, K.hdr y = some h -> ρ y = y /\ y < M := fun y h hy => by
       have h1 : cr i ≠ some y := fun e => by rw [hfr i y hil hunf e] at hy; cases hy
       have h2 : ¬ un y := fun ⟨j, hj, hu, hc⟩ => by
               simp only [Bool.or_eq_false_iff] at hu;rw [hfr j y hj hu.1 hc] at hy;cases hy
       refine ⟨by simp only [ρ]; rw [if_neg h1, if_neg h2], ?_⟩;rcases Nat.lt_or_ge y M with h | h
       ·exact h
       ·rw [hs.hdr y h] at hy; cases hy
      have hobs : ∀ y ob, getK (stX ops T W s M (fun j => listed.getD j false) L).obs y = some ob -> (ρ y = y /\ y < M) /\ ob.all (Good ρ M) := fun y ob hy => by
       have hok := hs.sat.ob y ob hy;obtain ⟨h, h1, _⟩ := hok;exact ⟨hknown y h h1, (hs.sat.ob y ob hy).good hknown⟩
      have hgood := zm6 (g := Good ρ M) (fun _ => ⟨by simp [D.ren], by simp [D.under]⟩) (fun cs h => h.agg) he (fun x hx => (zaJ hs x).good hknown) (fun y ob hy => (hobs y ob hy).2);obtain ⟨e', he', ⟨rfl, hgU, hgN⟩⟩ := Lin.effD.2 _ hgood
      have he2 : effD P (stX ops T W s M (fun j => listed.getD j false) L) o.op fun e => zaq o.dst (stX ops T W s M (fun j => listed.getD j false) L) ∧ (e.nw = none → o.dst = none) ∧
               ((stX ops T W s M (fun j => listed.getD j false) L).effS e o.dst) = (stX ops T W s M (fun j => listed.getD j false) L).effS e' o.dst :=
       Lin.effD.1 _ _ (fun e hee => by
               subst hee;refine ⟨hpo, fun hn => ?_, rfl⟩;rw [hn] at hcase;exact hcase.1) he
      refine .inl (zee (k := fun s' => s' = (stX ops T W s M (fun j => listed.getD j false) L).effS e' o.dst) (zi9 he2) K a w hin hs _ _ (fun K' a' w' s' h1 h2 h3 => ?_) fun ch K' a' w' s' h1 h2 h3 => .inl ⟨K', s', h1, h2, h3⟩);subst h3;have hle : St.Le Γ.n0 ρ ((stX ops T W s M (fun j => listed.getD j false) L).effS e' o.dst) (stX ops T W s M (fun j => listed.getD j false || j == i) L) := by
       have hWi : ∀ y, y ∈ zdC (W i) → getK (zeG W (fun j => listed.getD j false || j == i) ops.length) y = getK (W i) y := fun y hy =>
               zg9 W _ i y hy ops.length hil fun j hj hlt hk => hlast y hy j hj hlt hk
       have hWn : ∀ y, y ∉ zdC (W i) → getK (zeG W (fun j => listed.getD j false || j == i) ops.length) y = getK (zeG W (fun j => listed.getD j false) ops.length) y := fun y hy =>
               zcs W _ _ y ops.length fun j hj hk => by
                by_cases hji : j = i
                ·subst hji; exact absurd hk hy
                ·simp [hji]
       have hinj : ∀ y1 y2, y1 < M → y2 < M → ρ y1 = ρ y2 → y1 = y2 := fun y1 y2 g1 g2 hr => by
               simp only [ρ] at hr;by_cases c1 : cr i = some y1 <;> by_cases c2 : cr i = some y2
               ·rw [c1] at c2; cases c2; rfl
               ·rw [if_pos c1, if_neg c2] at hr;split at hr <;> omega
               ·rw [if_neg c1, if_pos c2] at hr;split at hr <;> omega
               ·rw [if_neg c1, if_neg c2] at hr;split at hr <;> split at hr <;> omega
       have hobs2 : ∀ y ob', getK (stX ops T W s M (fun j => listed.getD j false || j == i) L).obs y = some ob' → y < M ∧
                ∃ ob, getK ((stX ops T W s M (fun j => listed.getD j false) L).effS e' o.dst).obs (ρ y) = some ob /\ Ob.le ρ ob ob' /\ ob'.under M = true := fun y ob' hy => by
               simp only [stX, stW, zcF, zao] at hy;cases hn : e'.nw with
               | none =>
                rw [hn] at hcase;obtain ⟨hd0, hWU, hcn⟩ := hcase;have hob : ∀ z, getK ((stX ops T W s M (fun j => listed.getD j false) L).effS e' o.dst).obs z = match getK (W i) z with | some x => x | none => getK (stX ops T W s M (fun j => listed.getD j false) L).obs z := fun z => by
                 simp only [St.effS, hn, zao, hWU]
                 try rfl
                by_cases hk : y ∈ zdC (W i)
                ·rw [hWi y hk, zej (hLi y hk)] at hy;obtain ⟨x, hx⟩ := zef (W i) y hk;rw [hx] at hy;simp only at hy;subst hy;have hmem : (y, some ob') ∈ e'.U := by
                  rw [<- hWU];have : ∀ (l : Wr), getK l y = some (some ob') -> (y, some ob') ∈ l := by
                   intro l
                   induction l with
                   | nil => intro h; cases h
                   | cons p l ih =>
                    obtain ⟨k', d'⟩ := p;intro h;rw [zaa] at h;by_cases hyk : y = k'
                    ·rw [if_pos hyk] at h; cases h; subst hyk; simp
                    ·rw [if_neg hyk] at h; exact List.mem_cons_of_mem _ (ih h)
                  exact this _ hx
                 obtain ⟨hga, o0, ho0⟩ := hgU _ hmem ob' rfl;obtain ⟨⟨hr, hlt⟩, _⟩ := hobs y o0 ho0;refine ⟨hlt, ob', ?_, (Ob.zdc hga).1, (Ob.zdc hga).2⟩;rw [hr, hob, hx]
                ·rw [hWn y hk] at hy;obtain ⟨⟨hr, hlt⟩, hga⟩ := hobs y ob' (by simp only [stX, stW, zcF, zao]; exact hy);refine ⟨hlt, ob', ?_, (Ob.zdc hga).1, (Ob.zdc hga).2⟩;rw [hr, hob, zcw (W i) y hk];simp only [stX, stW, zcF, zao];exact hy
               | some nb =>
                rw [hn] at hcase;obtain ⟨x0, hcx, hWU, hTi⟩ := hcase;have hx0 := hcr i x0 hcx;have hob : ∀ z, z ≠ M -> getK ((stX ops T W s M (fun j => listed.getD j false) L).effS e' o.dst).obs z = match getK e'.U z with | some x => x | none => getK (stX ops T W s M (fun j => listed.getD j false) L).obs z := fun z hz => by
                 have : ∀ (q : St) (d : D), (q.put o.dst d).obs = q.obs := fun q d => by cases o.dst <;> rfl
                 simp only [St.effS, hn, this, zaa];rw [if_neg (by simpa [stX, stW] using hz), zao]
                 try rfl
                have hobM : getK ((stX ops T W s M (fun j => listed.getD j false) L).effS e' o.dst).obs M = some nb := by
                 have : ∀ (q : St) (d : D), (q.put o.dst d).obs = q.obs := fun q d => by cases o.dst <;> rfl
                 simp only [St.effS, hn, this, zaa];rw [if_pos (by simp [stX, stW])]
                by_cases hyx : y = x0
                ·subst hyx;have hk : y ∈ zdC (W i) := by rw [hWU]; simp [zdC]
                 rw [zej (hLi y hk), hWi y hk, hWU, zaa, if_pos rfl] at hy;simp only at hy;cases hy;have hga := hgN ob' hn;refine ⟨hx0.2, ob', ?_, (Ob.zdc hga).1, (Ob.zdc hga).2⟩;simp only [ρ];rw [if_pos hcx];exact hobM
                ·by_cases hk : y ∈ zdC (W i)
                 ·rw [zej (hLi y hk), hWi y hk, hWU, zaa, if_neg hyx] at hy;have hk' : y ∈ e'.U.map (·.1) := by
                   rw [hWU] at hk;simp only [zdC, List.map_cons, List.mem_cons] at hk;exact hk.resolve_left hyx
                  obtain ⟨x, hx⟩ := zef e'.U y hk';rw [hx] at hy;simp only at hy;subst hy;have hmem : (y, some ob') ∈ e'.U := by
                   have : ∀ (l : Wr), getK l y = some (some ob') -> (y, some ob') ∈ l := by
                    intro l
                    induction l with
                    | nil => intro h; cases h
                    | cons p l ih =>
                     obtain ⟨k', d'⟩ := p;intro h;rw [zaa] at h;by_cases hyk : y = k'
                     ·rw [if_pos hyk] at h; cases h; subst hyk; simp
                     ·rw [if_neg hyk] at h; exact List.mem_cons_of_mem _ (ih h)
                   exact this _ hx
                  obtain ⟨hga, o0, ho0⟩ := hgU _ hmem ob' rfl;obtain ⟨⟨hr, hlt⟩, _⟩ := hobs y o0 ho0;refine ⟨hlt, ob', ?_, (Ob.zdc hga).1, (Ob.zdc hga).2⟩;rw [hr, hob y (by omega), hx]
                 ·rw [hWn y hk] at hy;obtain ⟨⟨hr, hlt⟩, hga⟩ := hobs y ob' (by simp only [stX, stW, zcF, zao]; exact hy);refine ⟨hlt, ob', ?_, (Ob.zdc hga).1, (Ob.zdc hga).2⟩;have hk' : y ∉ e'.U.map (·.1) := by
                   rw [hWU] at hk;simp only [zdC, List.map_cons, List.mem_cons, not_or] at hk;exact hk.2
                  rw [hr, hob y (by omega), zcw e'.U y hk'];simp only [stX, stW, zcF, zao];exact hy
       have henv2 : ∀ x d', getK (stX ops T W s M (fun j => listed.getD j false || j == i) L).env x = some d' →
                (D.le ρ (((stX ops T W s M (fun j => listed.getD j false) L).effS e' o.dst).at x) d' /\ d'.under M = true) /\ x < s.n := fun x d' hx => by
               simp only [stX, stW] at hx;by_cases hdx : o.dst = some x
               ·rw [henv x hdx] at hx;cases hx;have hlt : x < s.n := by rw [hdx] at hpo; exact hpo
                cases hn : e'.nw with
                | none =>
                 rw [hn] at hcase;rw [hcase.1] at hdx;cases hdx
                | some nb =>
                 rw [hn] at hcase;obtain ⟨x0, hcx, hWU, hTi⟩ := hcase;have hx0 := hcr i x0 hcx;have hρ : ρ x0 = M := by simp only [ρ]; rw [if_pos hcx]
                 refine ⟨⟨.inr (.inl ?_), ?_⟩, hlt⟩
                 ·rw [hTi];simp only [St.effS, hn, hdx, St.put, St.at, zaa, if_true, Option.getD_some];cases e'.how <;> simp [mkD, D.ren, hρ, stX, stW]
                 ·rw [hTi];cases e'.how <;> simp [mkD, D.under, hx0.2]
               ·rw [henv' x hdx] at hx;obtain ⟨g1, g2⟩ := hs.env x d' hx;have hgd := g2.good hknown;have hat : ((stX ops T W s M (fun j => listed.getD j false) L).effS e' o.dst).at x = d' := by
                 have : ∀ (q : St) (d : D), getK (q.put o.dst d).env x = getK q.env x := fun q d => by
                  cases hd : o.dst with
                  | none => rfl
                  | some y =>
                   have hne : ¬ x = y := fun e => hdx (by rw [hd, e]);simp only [St.put, zaa, if_neg hne]
                 simp only [St.at, St.effS];cases hn : e'.nw with
                 | none => simp only [stX, stW, hx]; rfl
                 | some nb => simp only [this, stX, stW, hx]; rfl
                rw [hat];exact ⟨⟨.inr (.inl hgd.1.symm), hgd.2⟩, g1⟩
       refine ⟨?_, fun x d' hx => (henv2 x d' hx).1, fun x d' hx => ?_, hobs2, fun y1 y2 o1 o2 g1 g2 hr => hinj y1 y2 (hobs2 y1 o1 g1).1 (hobs2 y2 o2 g2).1 hr, fun j hj => ?_⟩
       ·have : ∀ (q : St) (d : D), (q.put o.dst d).n = q.n := fun q d => by cases o.dst <;> rfl
        simp only [St.effS];cases e'.nw <;> simp only [this] <;> rfl
       ·have : ∀ (q : St) (d : D), (q.put o.dst d).n = q.n := fun q d => by cases o.dst <;> rfl
        have e2 : ((stX ops T W s M (fun j => listed.getD j false) L).effS e' o.dst).n = s.n := by
         simp only [St.effS];cases e'.nw <;> simp only [this] <;> rfl
        rw [e2];exact (henv2 x d' hx).2
       ·have c1 : cr i ≠ some j := fun e => by have := (hcr i j e).1; omega
        have c2 : ¬ un j := fun ⟨q, _, _, hc⟩ => by have := (hcr q j hc).1; omega
        refine ⟨by simp only [ρ]; rw [if_neg c1, if_neg c2], ?_⟩;show j < M;omega
      obtain ⟨g1, g2⟩ := Sim.weak h1 h2 hle;refine go _ a' w' L g1 g2 hLp' fun j x hj hu hc => ?_;simp only [Kr.ren];split
      ·have c1 : cr i ≠ some x := fun e => by
               have := hcr1 i j x e hc;subst this;simp at hu
       have c2 : un x := ⟨j, hj, hu, hc⟩;simp only [ρ];rw [if_neg c1, if_pos c2];refine h2.hdr _ ?_;have : ∀ (q : St) (d : D), (q.put o.dst d).next = q.next := fun q d => by cases o.dst <;> rfl
       simp only [St.effS];cases e'.nw <;> simp only [this, stX, stW] <;> omega
      ·rfl
    ·rw [if_neg (by rw [hw]; simp)];exact next hv.2 K undef w hin (.refl _) rfl hs.sat (by rw [hv.1]; exact .u _ _ (.oth _))
 have h0 : (fun j => (Array.replicate ops.toArray.size false).getD j false) = fun _ => false := funext fun j => by
  by_cases hj : j < ops.length <;> simp [hj]
 refine key _ _ [] K a w0 (by simp) (by simp) (fun j y hj hS => ?_) hin0 ?_ ?_ fun j x _ _ hc => hs.hdr x (hcr j x hc).1
 ·have : (Array.replicate ops.toArray.size false).getD j false = false := congrFun h0 j;rw [this] at hS;cases hS
 ·rw [h0];have none : ∀ (l : List Oper) (i : Nat) (e : List (Nat × D)), zfe T (fun _ => false) l i e = e := by
   intro l
   induction l with
   | nil => intro i e; rfl
   | cons o l ih => intro i e; simp [zfe, ih]
  have wn : ∀ m, zeG W (fun _ => false) m = [] := by
   intro m
   induction m with
   | zero => rfl
   | succ m ih => simp [zeG, ih]
  refine ⟨hs0.sat.eqo fun y => ?_, hs0.defers, hs0.size, fun x d hx => hs0.env x d ?_, fun y hy => hs0.hdr y (Nat.le_trans hM hy)⟩
  ·simp only [stX, stW, wn, zgv]; rfl
  ·simp only [stX, stW, none] at hx; exact hx
 ·have : ((List.range ops.length).filterMap fun j => if (Array.replicate ops.toArray.size false).getD j false = true then N j else none) = [] := by
   rw [List.filterMap_eq_nil_iff];intro j _;rw [congrFun h0 j];simp
  rw [this]
end Go.VL
namespace Go.VL
open Go
def tN (N : Nat -> Option zez) (n : Nat) : List (Option zez) := (List.range n).map N
abbrev Ent.no : Ent := (.un, [], none, [])
def Op3 (P : Program) (s : St) (o : O1) (e : Ent) : Option zez -> Prop
 | none => zaq o.dst s /\ Op2 P s o e
 | some q => e = Ent.no /\ o.guard = none /\ o.dst = none /\ InsOK P s o.op q
def znb (P : Program) : List O1 -> St -> Fp -> List (Option zez) -> (St -> Fp -> List (Option zez) -> Prop) -> Prop
 | [], s, fp, ins, k => k s fp ins
 | o :: rest, s, fp, ins, k => ∃ (e : Ent) (q : Option zez), Op3 P s o e q /\ (∀ x, e.2.2.1 = some x -> x = s.next) /\ znb P rest (s.app o.dst e) (fp ++ [(e.2.2.2, zdC e.2.1)]) (ins ++ [q]) k
def St.ins (s : St) (ins : List (Option zez)) : St := { s with obs := zgv (ins.filterMap id) s.obs }
def HD3 (P : Program) (l : List O1) (s : St) (fp : Fp) (ins : List (Option zez)) (C : Fp -> List (Option zez) -> Prop) (k : St -> Prop) : Prop :=
 ∀ s0 : St, s0.Eqo s -> znb P l s0 fp ins fun s1 fp ins => C fp ins /\ ∃ s', (s1.ins ins).Eqo s' /\ k s'
theorem St.Eqo.ins {s s' : St} (h : s.Eqo s') (L : List (Option zez)) : (s.ins L).Eqo (s'.ins L) :=
 ⟨h.1, fun x => by simp only [St.ins, zcF, h.2.1 x], h.2.2.1, h.2.2.2⟩
theorem InsOK.eqo {P : Program} {s s' : St} {op : Op} {q : zez} (e : s'.Eqo s) (h : InsOK P s op q) : InsOK P s' op q := by
 obtain ⟨t, x, ki, v, kk, ag, z, ku, h1, h2, h3, h4, h5, h6, h7, h8⟩ := h;have ho : ∀ x, opd s' x = opd s x := fun x => by cases x <;> simp [opd, St.at, e.2.2.2]
 exact ⟨t, x, ki, v, kk, ag, z, ku, h1, h2, by rw [ho]; exact h3, by rw [ho]; exact h4, h5, h6, by rw [ho]; exact h7, by rw [e.2.1]; exact h8⟩
theorem zcS {P s fp ins C k} (hC : C fp ins) (h : k (s.ins ins)) : HD3 P [] s fp ins C k := fun _ e => ⟨hC, s.ins ins, e.ins ins, h⟩
theorem zty {P s op rest fp ins C k} {q : zez} (hq : InsOK P s op q) (h : HD3 P rest s (fp ++ [([], [])]) (ins ++ [some q]) C k) : HD3 P (⟨none, op, none⟩ :: rest) s fp ins C k := fun s0 e =>
 ⟨Ent.no, some q, ⟨rfl, rfl, rfl, hq.eqo e⟩, fun x hx => (by cases hx), h _ (show (s0.app none Ent.no).Eqo s by simpa [St.app, St.put, zai] using e)⟩
theorem zrZ {P s dst op rest fp ins C k} (h : valD P s op fun d => zaq dst s /\ HD3 P rest (s.put dst d) (fp ++ [(zbi s op, [])]) (ins ++ [none]) C k) : HD3 P (⟨dst, op, none⟩ :: rest) s fp ins C k := fun s0 e => by
 obtain ⟨d, hv, hp, hr⟩ := Lin.valD.2 _ h;refine ⟨(d, [], none, zbi s op), none, ⟨by cases dst <;> simp_all [zaq, e.1], .inl ⟨?_, rfl, rfl, (zdZ e op).symm⟩⟩, fun x hx => (by cases hx), ?_⟩
 ·rw [zmD e]; exact hv
 ·exact hr _ (e.put dst d)
theorem ztz {P s dst op rest fp ins C k} (h : effD P s op fun e => zaq dst s /\ (e.nw = none -> dst = none) /\
  HD3 P rest (s.effS e dst) (fp ++ [(zbi s op, match e.nw with | none => e.U.map (·.1) | some _ => s.next :: e.U.map (·.1))]) (ins ++ [none]) C k) : HD3 P (⟨dst, op, none⟩ :: rest) s fp ins C k := by
 intro s0 e0;obtain ⟨e, hv, hp, hd, hr⟩ := Lin.effD.2 _ h;have h2 : HD2 P (⟨dst, op, none⟩ :: []) s fp (fun _ => True) (fun _ => True) := ztB (Lin.effD.1 _ _ (fun e' he => by subst he; exact ⟨hp, hd, ztA trivial trivial⟩) hv);have hp0 : zaq dst s0 := by cases dst <;> simp_all [zaq, e0.1]
 have hv0 : effD P s0 op (· = e) := by rw [zjW e0]; exact hv
 cases hn : e.nw with
 | none =>
  rw [hn] at hr;obtain rfl := hd hn;refine ⟨(.un, e.U, none, zbi s op), none, ⟨hp0, .inr ⟨e, hv0, (zdZ e0 op).symm, ?_⟩⟩, fun x hx => (by cases hx), ?_⟩
  ·rw [hn]; exact ⟨rfl, rfl, rfl⟩
  ·have : (s0.app none (.un, e.U, none, zbi s op)).Eqo (s.effS e none) := by
    refine ⟨?_, fun x => ?_, ?_, fun x => ?_⟩
    ·simp only [St.app, St.effS, hn, St.put, e0.1]
    ·simp only [St.app, St.effS, hn, St.put, zao, e0.2.1]
    ·simp only [St.app, St.effS, hn, St.put, e0.2.2.1]; simp
    ·simp only [St.app, St.effS, hn, St.put, e0.2.2.2]
   exact hr _ this
 | some ob =>
  rw [hn] at hr;refine ⟨(mkD e.how s0.next, (s0.next, some ob) :: e.U, some s0.next, zbi s op), none, ⟨hp0, .inr ⟨e, hv0, (zdZ e0 op).symm, ?_⟩⟩, fun x hx => (by cases hx; rfl), ?_⟩
  ·rw [hn]; exact ⟨s0.next, rfl, rfl, rfl⟩
  ·have hobs : ∀ (q : St) (d : D), (q.put dst d).obs = q.obs := fun q d => by cases dst <;> rfl
   have hnx : ∀ (q : St) (d : D), (q.put dst d).next = q.next := fun q d => by cases dst <;> rfl
   have hnn : ∀ (q : St) (d : D), (q.put dst d).n = q.n := fun q d => by cases dst <;> rfl
   have henv : ∀ (q q' : St) (d : D), (∀ x, getK q.env x = getK q'.env x) -> ∀ x, getK (q.put dst d).env x = getK (q'.put dst d).env x := fun q q' d hq x => by
    cases dst with
    | none => exact hq x
    | some y => simp only [St.put, zaa, hq x]
   have : (s0.app dst (mkD e.how s0.next, (s0.next, some ob) :: e.U, some s0.next, zbi s op)).Eqo (s.effS e dst) := by
    refine ⟨?_, fun x => ?_, ?_, fun x => ?_⟩
    ·simp only [St.app, St.effS, hn, hnn, e0.1]
    ·simp only [St.app, St.effS, hn, hobs, zaa, zao, e0.2.1, e0.2.2.1];by_cases hx : x = s.next <;> simp [hx]
    ·simp only [St.app, St.effS, hn, hnx, e0.2.2.1]; rfl
    ·simp only [St.app, St.effS, hn, e0.2.2.1];refine henv _ _ _ ?_ x;intro x;exact e0.2.2.2 x
   have hk : zdC ((s0.next, some ob) :: e.U) = s.next :: e.U.map (·.1) := by simp [zdC, e0.2.2.1]
   rw [hk];exact hr _ this
def zt2 : Op -> Bool
 | .mapUpdate .. | .insert .. => true
 | _ => false
theorem zqw {N N' : Nat -> Option zez} {i : Nat} (h : ∀ j, j < i -> N j = N' j) : tN N i = tN N' i :=
 List.map_congr_left fun j hj => h j (List.mem_range.1 hj)
theorem zna {P : Program} {all : Array Oper} {s0 : St} {ops : List Oper} {k : St -> Fp -> List (Option zez) -> Prop} : ∀ (l : List O1) (tail : List Oper) (i : Nat) (E : Nat -> Ent) (N : Nat -> Option zez), zaW all tail = some l -> (∀ j, tail[j]? = ops[i + j]?) ->
  znb P l (stE ops s0 E i) (tF E i) (tN N i) k -> ∃ (E' : Nat -> Ent) (N' : Nat -> Option zez), (∀ j, j < i -> E' j = E j /\ N' j = N j) /\
   (∀ j o, i <= j -> ops[j]? = some o -> (N' j = none -> zaq o.dst s0 /\ OpG P all (stE ops s0 E' j) o (tT E' j) (tW E' j) (tC E' j) (tR E' j)) /\ (∀ e, N' j = some e -> E' j = Ent.no /\ o.guard = none /\ o.dst = none /\ InsOK P (stE ops s0 E' j) o.op e) /\ ∀ x, tC E' j = some x -> x = s0.next + cnt E' j) /\
   k (stE ops s0 E' (i + tail.length)) (tF E' (i + tail.length)) (tN N' (i + tail.length))
 | [], tail, i, E, N, hs, ht, h => by
  cases tail with
  | nil => exact ⟨E, N, fun _ _ => ⟨rfl, rfl⟩, fun j o hj ho => by have := ht (j - i); rw [show i + (j - i) = j by omega, ho] at this; simp at this, by simpa [znb] using h⟩
  | cons x l => simp only [zaW] at hs; split at hs <;> simp at hs
 | o1 :: l, tail, i, E, N, hs, ht, h => by
  obtain ⟨x, tl, rfl, hx, hr⟩ := zdS hs;obtain ⟨e, q, hv, hnx, hc⟩ := h;have hxi : ops[i]? = some x := by have := ht 0; simpa using this.symm
  have hdst : o1.dst = x.dst := by
   unfold zcy at hx;split at hx
   ·simp at hx; subst hx; rfl
   ·split at hx
    ·simp at hx; subst hx; rfl
    ·cases hx
  let E1 : Nat -> Ent := fun j => if j = i then e else E j
  let N1 : Nat -> Option zez := fun j => if j = i then q else N j
  have h1 : ∀ j, j < i -> E j = E1 j := fun j hj => by simp only [E1]; rw [if_neg (by omega)]
  have n1 : ∀ j, j < i -> N j = N1 j := fun j hj => by simp only [N1]; rw [if_neg (by omega)]
  have hi : E1 i = e := by simp [E1]
  have ni : N1 i = q := by simp [N1]
  have zbP : (stE ops s0 E i).app o1.dst e = stE ops s0 E1 (i + 1) := by
   rw [zf4 h1, hdst];simp only [stE, St.app];rw [zh7 (tT E1) i ops 0 s0.env x (Nat.zero_le _) (by simpa using hxi)];have hw : zeG (tW E1) (fun _ => true) (i + 1) = e.2.1 ++ zeG (tW E1) (fun _ => true) i := by
    rw [zeG, if_pos rfl, show tW E1 i = e.2.1 by simp only [tW, hi]]
   have hcn : cnt E1 (i + 1) = cnt E1 i + if e.2.2.1.isSome then 1 else 0 := by
    rw [cnt, show tC E1 i = e.2.2.1 by simp only [tC, hi]]
   rw [hw, zea, hcn];have hT : tT E1 i = e.1 := by simp only [tT, hi]
   cases x.dst with
   | none => simp only [St.put, Nat.add_assoc]
   | some y => simp only [St.put, hT, Nat.add_assoc]
  have hfp : tF E i ++ [(e.2.2.2, zdC e.2.1)] = tF E1 (i + 1) := by
   rw [zqx h1];simp only [tF, List.range_succ, List.map_append, List.map_cons, List.map_nil];rw [show tR E1 i = e.2.2.2 by simp only [tR, hi], show tW E1 i = e.2.1 by simp only [tW, hi]]
  have hin : tN N i ++ [q] = tN N1 (i + 1) := by
   rw [zqw n1];simp only [tN, List.range_succ, List.map_append, List.map_cons, List.map_nil, ni]
  rw [zbP, hfp, hin] at hc;obtain ⟨E', N', g1, g2, g3⟩ := zna l tl (i + 1) E1 N1 hr (fun j => by have := ht (j + 1); rw [show i + 1 + j = i + (j + 1) by omega, <- this]; simp) hc;refine ⟨E', N', fun j hj => ⟨by rw [(g1 j (by omega)).1, h1 j hj], by rw [(g1 j (by omega)).2, n1 j hj]⟩, fun j o hj ho => ?_, ?_⟩
  ·rcases Nat.lt_or_ge i j with h' | h'
   ·exact g2 j o h' ho
   ·obtain rfl : i = j := by omega
    rw [hxi] at ho;cases ho;have hEi : E' i = e := by rw [(g1 i (by omega)).1, hi]
    have hNi : N' i = q := by rw [(g1 i (by omega)).2, ni]
    have hst : stE ops s0 E' i = stE ops s0 E i := zf4 fun j hj => by rw [(g1 j (by omega)).1, <- h1 j hj]
    refine ⟨fun hN => ?_, fun e' hN => ?_, fun y hy => ?_⟩
    ·rw [hNi] at hN;subst hN;obtain ⟨hp, hv⟩ := hv;refine ⟨by rw [hdst] at hp; exact hp, ?_⟩;rw [hst];simp only [tT, tW, tC, tR, hEi];unfold zcy at hx;unfold OpG;unfold Op2 at hv;split at hx
     ·rename_i hg;simp at hx;subst hx
      try rw [hg]
      exact hv
     ·rename_i q want hg;split at hx
      ·rename_i t ht';simp at hx;subst hx
       try rw [hg]
       exact ⟨t, ht', hv⟩
      ·cases hx
    ·rw [hNi] at hN;subst hN;obtain ⟨rfl, hg, hd, hok⟩ := hv;rw [hst];unfold zcy at hx;split at hx
     ·rename_i hg';simp at hx;subst hx;exact ⟨hEi, hg', hd, hok⟩
     ·split at hx
      ·simp at hx; subst hx; cases hg
      ·cases hx
    ·have : tC E' i = e.2.2.1 := by simp only [tC, hEi]
     rw [this] at hy;have := hnx y hy;rw [this, zgm E' E i fun j hj => by rw [(g1 j (by omega)).1, <- h1 j hj]]
     try rfl
  ·rw [show i + (x :: tl).length = i + 1 + tl.length by simp; omega];exact g3
def okI (ops : List Oper) (fp : Fp) (ins : List (Option zez)) : Bool :=
 (List.range ops.length).all fun j => match ins.getD j none with
   | none => true
   | some e => (List.range ops.length).all fun i => match ins.getD i none with
    | none => !(fp.getD i ([], [])).1.contains e.1 && (!(fp.getD i ([], [])).2.contains e.1 || zey ops ops.length i j)
    | some e' => i == j || !(e'.1 == e.1) || !decide (e'.2.1 = e.2.1)
theorem zrL {P Γ s} {Q : Exit -> St -> Prop} {kt : Kt} {id : Nat} {l : List Oper} (hm : P.follows .mixedOrders = true) (hord : zij l = true) (hn0 : Γ.n0 <= s.next)
  (h : ∀ (C : Fp -> List (Option zez) -> Prop) (k : St -> Prop), (∀ fp ins, okP l fp = true -> okI l fp ins = true -> C fp ins) -> (∀ s', za3 P Γ Q kt .normal s' -> k s') -> match zaW l.toArray l with | some l' => HD3 P l' s [] [] C k | none => False) :
  V P Γ (.region id l.toArray true) s (za3 P Γ Q kt) := by
 have := h (fun fp ins => okP l fp = true /\ okI l fp ins = true) _ (fun _ _ h g => ⟨h, g⟩) fun _ h => h;split at this
 ·rename_i l' hl;have h0 : stE l s (fun _ => default) 0 = s := by
   have hnone : ∀ (l : List Oper) (i : Nat) (e : List (Nat × D)), zfe (tT fun _ => default) (fun j => decide (j < 0)) l i e = e := by
    intro l
    induction l with
    | nil => intro i e; rfl
    | cons o l ih => intro i e; exact ih (i + 1) e
   simp only [stE, hnone]
   try rfl
  have hc := this s (.refl s);rw [<- h0] at hc;obtain ⟨E, N, _, h2, ⟨hok, hoi⟩, s', h3, h4⟩ := zna l' l 0 (fun _ => default) (fun _ => none) hl (fun j => by rw [Nat.zero_add]) hc;rw [Nat.zero_add] at hok hoi h3;have hlen : ∀ i, i < l.length -> (tF E l.length).getD i ([], []) = (tR E i, zdC (tW E i)) := fun i hi => by
   simp [tF, hi]
  have hlenN : ∀ i, i < l.length -> (tN N l.length).getD i none = N i := fun i hi => by
   simp [tN, hi]
  have mono : ∀ i j, i <= j -> cnt E i <= cnt E j := fun i j hij => by
   induction hij with
   | refl => exact Nat.le_refl _
   | step _ ih => simp only [cnt]; omega
  have hcr : ∀ i x, i < l.length -> tC E i = some x -> x = s.next + cnt E i /\ cnt E (i + 1) = cnt E i + 1 := fun i x hi hx => by
   have := (h2 i _ (Nat.zero_le _) (List.getElem?_eq_getElem hi)).2.2 x hx;exact ⟨this, by simp only [cnt, hx]; rfl⟩
  let cr : Nat -> Option Nat := fun i => if i < l.length then tC E i else none
  have hN' : ∀ i e, (if i < l.length then N i else none) = some e -> i < l.length /\ N i = some e := fun i e hh => by
   split at hh
   ·rename_i hi; exact ⟨hi, hh⟩
   ·cases hh
  have hst : ∀ i, i < l.length -> stW l (tT E) (tW E) s (s.next + cnt E l.length) (fun j => decide (j < i)) = { stE l s E i with next := s.next + cnt E l.length } := fun i hi => by
   simp only [stW, stE];rw [zhs (tW E) i l.length (by omega)]
  refine zrM (T := tT E) (W := tW E) (cr := cr) (R := tR E) (N := fun i => if i < l.length then N i else none) (M := s.next + cnt E l.length) hm hord hn0 (by omega) (fun i x hx => ?_) (fun i j x hi hj => ?_) (fun i j hij hj hb => ?_) (fun i o e ho he => ?_) (fun i j e hi hj hni hnj => ?_) (fun i j e e' hij hni hnj hid => ?_) (fun i o ho hni => ?_) ⟨s', ?_, h4⟩
  ·simp only [cr] at hx;split at hx
   ·rename_i hi;obtain ⟨e1, e2⟩ := hcr i x hi hx;have := mono (i + 1) l.length hi;omega
   ·cases hx
  ·simp only [cr] at hi hj;split at hi
   ·rename_i hil;split at hj
    ·rename_i hjl;obtain ⟨e1, e2⟩ := hcr i x hil hi;obtain ⟨e3, e4⟩ := hcr j x hjl hj;rcases Nat.lt_trichotomy i j with hlt | hlt | hlt
     ·have := mono (i + 1) j hlt;omega
     ·exact hlt
     ·have := mono (j + 1) i hlt;omega
    ·cases hj
   ·cases hi
  ·have := (List.all_eq_true.1 ((List.all_eq_true.1 hok) j (List.mem_range.2 hj))) i (List.mem_range.2 hij);rw [hb, hlen i (by omega), hlen j hj] at this;simp only [Bool.false_or, Bool.and_eq_true] at this;refine ⟨fun y hy => ?_, fun y hy => zgj this.2 y hy⟩;have := zgj this.1 y hy;rw [List.mem_append, not_or] at this;exact this
  ·have hi := (List.getElem?_eq_some_iff.1 ho).1;obtain ⟨_, he⟩ := hN' i e he;obtain ⟨g1, g2, g3, g4⟩ := (h2 i o (Nat.zero_le _) ho).2.1 e he;refine ⟨by simp only [tW, g1], by simp only [cr, tC, g1]; simp, g2, g3, ?_⟩;rw [hst i hi];exact g4
  ·simp only [if_pos hi] at hni;obtain ⟨_, hnj⟩ := hN' j e hnj;have := (List.all_eq_true.1 hoi) j (List.mem_range.2 hj);rw [hlenN j hj, hnj] at this;have := (List.all_eq_true.1 this) i (List.mem_range.2 hi);rw [hlenN i hi, hni, hlen i hi] at this;simp only [Bool.and_eq_true, Bool.not_eq_true', Bool.or_eq_true] at this;refine ⟨fun h => ?_, fun h => ?_⟩
   ·have h1 := this.1;simp [h] at h1
   ·rcases this.2 with h1 | h1
    ·simp [h] at h1
    ·exact h1
  ·obtain ⟨hi, hni⟩ := hN' i e hni;obtain ⟨hj, hnj⟩ := hN' j e' hnj;have := (List.all_eq_true.1 hoi) j (List.mem_range.2 hj);rw [hlenN j hj, hnj] at this;have := (List.all_eq_true.1 this) i (List.mem_range.2 hi);rw [hlenN i hi, hni] at this;simp only [Bool.or_eq_true, beq_iff_eq, Bool.not_eq_true', decide_eq_false_iff_not] at this;rcases this with (h1 | h1) | h1
   ·exact absurd h1 hij
   ·simp [hid] at h1
   ·exact h1
  ·have hi := (List.getElem?_eq_some_iff.1 ho).1;simp only [if_pos hi] at hni;obtain ⟨g1, g2⟩ := (h2 i o (Nat.zero_le _) ho).1 hni;refine ⟨g1, ?_⟩;have hcri : cr i = tC E i := by simp only [cr]; rw [if_pos hi]
   rw [hst i hi, hcri];have eqo : ∀ (op : Op) (r : D -> Prop), valD P { stE l s E i with next := s.next + cnt E l.length } op r = valD P (stE l s E i) op r := fun op r => ziA rfl fun x _ => by cases x <;> rfl
   have ero : ∀ (op : Op), zbi { stE l s E i with next := s.next + cnt E l.length } op = zbi (stE l s E i) op := fun op => by
    have e : opd { stE l s E i with next := s.next + cnt E l.length } = opd (stE l s E i) := funext fun x => by cases x <;> rfl
    unfold zbi zbb zbW;rw [e]
   have efo : ∀ (op : Op) (r : ERes -> Prop), effD P { stE l s E i with next := s.next + cnt E l.length } op r = effD P (stE l s E i) op r := fun op r =>
    propext ⟨zew (fun _ _ => rfl) fun x _ => by cases x <;> rfl, zew (fun _ _ => rfl) fun x _ => by cases x <;> rfl⟩
   unfold OpG at g2 ⊢;unfold Op1 at g2 ⊢;simp only [eqo, ero, efo];exact g2
  ·have hfm : ((List.range l.length).filterMap fun i => if i < l.length then N i else none) = (tN N l.length).filterMap _root_.id := by
    rw [tN, List.filterMap_map];exact zgi fun j hj => by rw [if_pos (List.mem_range.1 hj)]; rfl
   rw [hfm];refine St.Eqo.trans (b := (stE l s E l.length).ins (tN N l.length)) ⟨rfl, fun x => ?_, rfl, fun x => ?_⟩ h3
   ·simp only [stX, stW, stE, St.ins]
   ·simp only [stX, stW, stE, St.ins];exact zc7 (tT E) _ _ x l 0 s.env s.env rfl fun j o hj _ => by
     have := (List.getElem?_eq_some_iff.1 hj).1;simp [this]
 ·exact this.elim
theorem zcQ {P s dst op rest fp ins C k} (_ : zbc op = false) (h : valD P s op fun d => zaq dst s /\ HD3 P rest (s.put dst d) (fp ++ [(zbi s op, [])]) (ins ++ [none]) C k) : HD3 P (⟨dst, op, none⟩ :: rest) s fp ins C k := zrZ h
theorem zcR {P s t x i v rest fp ins C k} (h : match zeh P t, opd s x, opd s i with
  | some (kk, ag, _), .mp m, .u ku => match zeD ku, zeo ag (opd s v), getK s.obs m with
   | some ky, some cells, some (.map kk' ag' []) => ky.kk = kk /\ kk = kk' /\ ag = ag' /\ HD3 P rest s (fp ++ [([], [])]) (ins ++ [some (m, ky, cells)]) C k
   | _, _, _ => False
  | _, _, _ => False) : HD3 P (⟨none, .insert t x i v, none⟩ :: rest) s fp ins C k := by
 split at h
 ·rename_i kk ag z m ku h1 h2 h3;split at h
  ·rename_i ky cells kk' ag' h4 h5 h6;obtain ⟨g1, rfl, rfl, g2⟩ := h;exact zty ⟨t, x, i, v, kk, ag, z, ku, .inr rfl, h1, h2, h3, h4, g1, h5, h6⟩ g2
  ·exact h.elim
 ·exact h.elim
theorem zcT {P s dst op rest fp ins C k} (_ : zbc op = true) (_ : zt2 op = false) (h : effD P s op fun e => zaq dst s /\ (e.nw = none -> dst = none) /\
  HD3 P rest (s.effS e dst) (fp ++ [(zbi s op, match e.nw with | none => e.U.map (·.1) | some _ => s.next :: e.U.map (·.1))]) (ins ++ [none]) C k) : HD3 P (⟨dst, op, none⟩ :: rest) s fp ins C k := ztz h
def zyg (l : List Oper) : Nat := (l.filter fun o => zt2 o.op).length
theorem zcP {P Γ s} {Q : Exit -> St -> Prop} {kt : Kt} {id : Nat} {l : List Oper} (_ : decide (1 < zyg l) = true) (hm : P.follows .mixedOrders = true) (hord : zij l = true) (hn0 : Γ.n0 <= s.next)
  (h : ∀ (C : Fp -> List (Option zez) -> Prop) (k : St -> Prop), (∀ fp ins, okP l fp = true -> okI l fp ins = true -> C fp ins) -> (∀ s', za3 P Γ Q kt .normal s' -> k s') -> match zaW l.toArray l with | some l' => HD3 P l' s [] [] C k | none => False) :
  V P Γ (.region id l.toArray true) s (za3 P Γ Q kt) := zrL hm hord hn0 h
theorem zuf {P l s s' fp fp' ins ins' C k} (h : s = s') (h' : fp = fp') (h'' : ins = ins') : HD3 P l s fp ins C k = HD3 P l s' fp' ins' C k := by rw [h, h', h'']
attribute [congr] zuf
end Go.VL
namespace Go.VL
open Go
end Go.VL
namespace Go.VL
open Go Go.Sort Go.Proofs
def zi0 (zs : List Int) : List (List D) := zs.map fun z => [.u (.int .i64 z)]
theorem CallP.zvN {P : Program} {Γ : Ctx} {s : St} {k : St -> Prop} {dst : Option Tmp} {fop : Operand} {args : List Operand} {f caps} {ds : List D} {post : D -> List (Nat × Ob) -> Nat -> Prop} (hret : Ret P f ds [] s.next post)
  (hf : zag (opd s fop) = some (f, caps)) (hc : zae P f = true) (hds : args.map (opd s) ++ caps = ds) (hp : zaq dst s)
  (hk : ∀ d o1 nx', s.next <= nx' -> post d o1 nx' -> k (({ s with obs := s.obs ++ o1, next := nx' } : St).put dst d)) : CallP P Γ fop args dst s k :=
 CallP.zzQ s.obs [] hret (fun i => by simp) (fun i ob _ => rfl) hf hc hds hp hk
end Go.VL
namespace Go.VL
open Go
def fam (b : Nat) : List Ob -> List (Nat × Ob)
 | [] => []
 | o :: l => (b, o) :: fam (b + 1) l
theorem zmX : ∀ (b : Nat) (l : List Ob) (j : Nat), getK (fam b l) j = if b <= j then l[j - b]? else none
 | b, [], j => by simp [fam, getK]
 | b, o :: l, j => by
  rw [fam, zaa, zmX (b + 1) l j];by_cases h : j = b
  ·subst h; simp
  ·rw [if_neg h];by_cases h2 : b <= j
   ·rw [if_pos (show b + 1 <= j by omega), if_pos h2, show j - b = (j - (b + 1)) + 1 by omega, List.getElem?_cons_succ]
   ·rw [if_neg (by omega), if_neg h2]
theorem zk3 (b : Nat) (l : List Ob) (i : Nat) : getK (fam b l) (i + b) = l[i]? := by rw [zmX, if_pos (by omega), Nat.add_sub_cancel]
theorem Wk.eqo {Γ : Ctx} {s s' : St} (h : s.Eqo s') : Wk Γ s s' := fun K _ _ h1 h2 => ⟨K, h1, h2.eqo h⟩
def EndsIn (T : List (Nat × Ob)) (b k : Nat) : List (Nat × Ob) -> Prop
 | [] => T = []
 | p :: l => (p :: l = T) \/ ((p.1 < b \/ k + b <= p.1) /\ EndsIn T b k l)
theorem EndsIn.out {T b k} : ∀ {obs}, EndsIn T b k obs -> ∃ A, obs = A ++ T /\ ∀ p ∈ A, p.1 < b \/ k + b <= p.1
 | [], h => ⟨[], by rw [show T = [] from h]; rfl, by simp⟩
 | p :: l, h => by
  rcases h with h | ⟨h1, h2⟩
  ·exact ⟨[], by rw [h]; rfl, by simp⟩
  ·obtain ⟨A, e, h3⟩ := EndsIn.out h2;exact ⟨p :: A, by rw [e]; rfl, fun q hq => (List.mem_cons.1 hq).elim (fun e => by rw [e]; exact h1) (h3 q)⟩
theorem EndsIn.get {L : List Ob} {b obs} (h : EndsIn (fam b L) b L.length obs) {i : Nat} (hi : i < L.length) : getK obs (i + b) = L[i]? := by
 obtain ⟨A, rfl, h2⟩ := h.out;rw [zab];have : getK A (i + b) = none := by
  cases hq : getK A (i + b) with
  | none => rfl
  | some o =>
   obtain ⟨p, hp, e⟩ := List.mem_map.1 (zhi hq);have := h2 p hp;omega
 rw [this, zk3]
def famPure (L : List Ob) : Prop := ∀ o ∈ L, ∃ e sz B, o = .vec e sz B /\ zaN B
theorem famPure.under {L : List Ob} (h : famPure L) {o : Ob} (ho : o ∈ L) (nx : Nat) : o.under nx = true := by
 obtain ⟨e, sz, B, rfl, hB⟩ := h o ho;exact Ob.zlB (zfl hB)
theorem Ret.re {P : Program} {f : FuncId} {ds : List D} {obs : List (Nat × Ob)} {nx : Nat} {p q : D -> List (Nat × Ob) -> Nat -> Prop} (h : Ret P f ds obs nx p) (hq : ∀ d o n, p d o n -> ∃ o', (∀ j, getK o' j = getK o j) /\ q d o' n) : Ret P f ds obs nx q :=
 fun k own w vs h1 h2 h3 h4 => (h k own w vs h1 h2 h3 h4).mono fun e w' ⟨v, d, o, nx', k', a1, a2, a3, a4, a5, a6, a7⟩ =>
  let ⟨o', b1, b2⟩ := hq d o nx' a7
  ⟨v, d, o', nx', k', a1, a2, a3.congr b1, a4, a5, a6, b2⟩
theorem ztl {P Γ Q k s} {c : Code} {α : Type} (live : List Nat) (F : α -> List (Nat × D)) (O : α -> List (Nat × Ob)) (nx : α -> Nat) (μ : α -> Nat) (x0 : α) (h0 : Wk Γ s { s.lp live (F x0) with obs := O x0, next := nx x0 })
  (h : ∀ x, V P Γ c { s.lp live (F x) with obs := O x, next := nx x } (za3 P Γ Q (.loop (LoopW Γ (fun x => { s.lp live (F x) with obs := O x, next := nx x }) μ x) k))) : V P Γ (.loop c) s (za3 P Γ Q k) := zmo _ μ x0 h0 h
end Go.VL
namespace Go.VL
open Go
theorem zr0 {P : Program} {Γ : Ctx} {s s' : St} {k : St -> Prop} {dst : Option Tmp} {fop : Operand} {args : List Operand} (hw : Wk Γ s s') (h : CallP P Γ fop args dst s' k) : CallP P Γ fop args dst s k := fun ts ty pos after K a w hin hs =>
 let ⟨K', h1, h2⟩ := hw K a w hin hs
 h ts ty pos after K' a w h1 h2
end Go.VL
namespace Go.VL
open Go
inductive Out where
 | val (d : D)
 | pan (ch : List PanicEntry)
def zsk (k : Kr) (e : Ending) : Out -> Prop
 | .val d => ∃ v, e = .returned v /\ Rep k d v
 | .pan ch => e = .panicked ch
def RetX (P : Program) (f : FuncId) (ds : List D) (obs : List (Nat × Ob)) (nx : Nat) (post : Out -> List (Nat × Ob) -> Nat -> Prop) : Prop :=
 ∀ (k : Kr) (own : Nat -> Prop) (w : World) (vs : Array Value), Sat k own obs w -> (∀ i, nx <= i -> k.hdr i = none) -> (∀ b, w.heap.size <= b -> own b) -> RepL k ds vs ->
  Calls P f vs w fun e w' => ∃ r obs' nx' k', zsk k' e r /\ In (.of own k nx w) k' w' /\ Sat k' own obs' w' /\ (∀ i, nx' <= i -> k'.hdr i = none) /\ nx <= nx' /\ post r obs' nx'
theorem Ret.x {P f ds obs nx post} (h : Ret P f ds obs nx post) : RetX P f ds obs nx fun r o n => match r with | .val d => post d o n | .pan _ => False :=
 fun k own w vs h1 h2 h3 h4 => (h k own w vs h1 h2 h3 h4).mono fun _ _ ⟨v, d, o, n, k', e, a, b, c, g, r, hp⟩ => ⟨.val d, o, n, k', ⟨v, e, r⟩, a, b, c, g, hp⟩
theorem RetX.mono {P f ds obs nx} {p q : Out -> List (Nat × Ob) -> Nat -> Prop} (h : RetX P f ds obs nx p) (hq : ∀ r o n, p r o n -> q r o n) : RetX P f ds obs nx q :=
 fun k own w vs h1 h2 h3 h4 => (h k own w vs h1 h2 h3 h4).mono fun _ _ ⟨r, o, n, k', e, a, b, c, g, hp⟩ => ⟨r, o, n, k', e, a, b, c, g, hq _ _ _ hp⟩
theorem RetX.ret {P f ds obs nx} {p : Out -> List (Nat × Ob) -> Nat -> Prop} {q : D -> List (Nat × Ob) -> Nat -> Prop} (h : RetX P f ds obs nx p) (hv : ∀ d o n, p (.val d) o n -> q d o n) (hx : ∀ ch o n, ¬ p (.pan ch) o n) : Ret P f ds obs nx q :=
 fun k own w vs h1 h2 h3 h4 => (h k own w vs h1 h2 h3 h4).mono fun _ _ ⟨r, o, n, k', e, a, b, c, g, hp⟩ => by
  cases r with
  | val d =>
   obtain ⟨v, e, hr⟩ := e;exact ⟨v, d, o, n, k', e, a, b, c, g, hr, hv d o n hp⟩
  | pan ch => exact absurd hp (hx ch o n)
theorem RetX.congr {P f ds obs obs' nx post} (h : RetX P f ds obs nx post) (e : ∀ i, getK obs' i = getK obs i) : RetX P f ds obs' nx post :=
 fun k own w vs hsat hhdr hfresh hrep => h k own w vs (Sat.congr hsat fun i => (e i).symm) hhdr hfresh hrep
theorem zh4 {k k' : Kr} {own : Nat -> Prop} {obs F o1 : List (Nat × Ob)} {nx : Nat} {w w' : World} (hsat : Sat k own (F ++ obs) w)
  (hin : In (.of (fun b => own b /\ ¬ Blk k F b) k nx w) k' w') (hs1 : Sat k' (fun b => own b /\ ¬ Blk k F b) o1 w') : Sat k' own (F ++ o1) w' := by
 have hfo : ∀ i ob, getK F i = some ob -> getK (F ++ obs) i = some ob := fun i ob hi => by rw [zab, hi]
 have hFat : ∀ i ob, getK F i = some ob -> ∃ g, k.hdr i = some g /\ k'.hdr i = some g /\ (∀ b, g.1 = some b -> own b /\ (∀ o, k'.mem b o = none) /\ Blk k F b) /\ ObAt k' w' g ob := fun i ob hi => by
  obtain ⟨g, h1, h2, h3⟩ := hsat.ob i ob (hfo i ob hi);have hB : ∀ b, g.1 = some b -> Blk k F b := fun b hb => ⟨i, ob, g, hi, h1, hb⟩;refine ⟨g, h1, hin.le.hdr i g h1, fun b hb => ⟨(h2 b hb).1, fun o => ?_, hB b hb⟩, h3.keep hin.le fun b hb => hin.block b fun hb' => hb'.2 (hB b hb)⟩;cases hm : k'.mem b o with
  | none => rfl
  | some x =>
   rcases hin.memNew b o x hm with h4 | h4
   ·have h4' : k.mem b o = some x := h4;rw [(h2 b hb).2 o] at h4'; cases h4'
   ·exact absurd (hB b hb) h4.2
 refine ⟨hs1.mem, fun i ob hi => ?_, fun i j x y g g' b hx hy hij hg hg' hb => ?_⟩
 ·rw [zab] at hi;cases hf : getK F i with
  | some x =>
   rw [hf] at hi;cases hi;obtain ⟨g, _, h2, h3, h4⟩ := hFat i _ hf;exact ⟨g, h2, fun b hb => ⟨(h3 b hb).1, (h3 b hb).2.1⟩, h4⟩
  | none =>
   rw [hf] at hi;obtain ⟨g, h1, h2, h3⟩ := hs1.ob i ob hi;exact ⟨g, h1, fun b hb => ⟨(h2 b hb).1.1, (h2 b hb).2⟩, h3⟩
 ·rw [zab] at hx hy;cases hfx : getK F i with
  | some x' =>
   obtain ⟨g1, k1, k2, k3, _⟩ := hFat i _ hfx;rw [hg] at k2;cases k2;cases hfy : getK F j with
   | some y' =>
    obtain ⟨g2, l1, l2, l3, _⟩ := hFat j _ hfy;rw [hg'] at l2;cases l2;exact hsat.apart i j x' y' g g' b (hfo i _ hfx) (hfo j _ hfy) hij k1 l1 hb
   | none =>
    rw [hfy] at hy;obtain ⟨g2, l1, l2, _⟩ := hs1.ob j y hy;rw [hg'] at l1;cases l1;exact fun e => (l2 b e).1.2 (k3 b hb).2.2
  | none =>
   rw [hfx] at hx;cases hfy : getK F j with
   | some y' =>
    obtain ⟨g2, l1, l2, l3, _⟩ := hFat j _ hfy;rw [hg'] at l2;cases l2;obtain ⟨g1, k1, k2, _⟩ := hs1.ob i x hx;rw [hg] at k1;cases k1;exact fun e => (k2 b hb).1.2 (l3 b e).2.2
   | none =>
    rw [hfy] at hy;exact hs1.apart i j x y g g' b hx hy hij hg hg' hb
theorem zgJ {k : Kr} {own : Nat -> Prop} {obs F : List (Nat × Ob)} {w : World} (hF : ∀ i ob, getK F i = some ob -> getK obs i = none) (hsat : Sat k own (F ++ obs) w) : Sat k (fun b => own b /\ ¬ Blk k F b) obs w := by
 have hob : ∀ i ob, getK obs i = some ob -> getK F i = none /\ getK (F ++ obs) i = some ob := fun i ob hi => by
  have hn : getK F i = none := by
   cases hf : getK F i with
   | none => rfl
   | some x => rw [hF i x hf] at hi; cases hi
  exact ⟨hn, by rw [zab, hn]; exact hi⟩
 have hfo : ∀ i ob, getK F i = some ob -> getK (F ++ obs) i = some ob := fun i ob hi => by rw [zab, hi]
 refine ⟨hsat.mem, fun i ob hi => ?_, fun i j x y g g' b hx hy hij => ?_⟩
 ·obtain ⟨hn, hi'⟩ := hob i ob hi;obtain ⟨g, h1, h2, h3⟩ := hsat.ob i ob hi';refine ⟨g, h1, fun b hb => ⟨⟨(h2 b hb).1, ?_⟩, (h2 b hb).2⟩, h3⟩;rintro ⟨j, oj, g', h4, h5, h6⟩;exact hsat.apart i j ob oj g g' b hi' (hfo j oj h4) (fun e => by subst e; rw [hn] at h4; cases h4) h1 h5 hb h6
 ·exact hsat.apart i j x y g g' b (hob i x hx).2 (hob j y hy).2 hij
theorem zfW {k : Kr} {own : Nat -> Prop} {obs F : List (Nat × Ob)} {w : World} (hsat : Sat k own (F ++ obs) w) (hfresh : ∀ b, w.heap.size <= b -> own b) : ∀ b, w.heap.size <= b -> own b /\ ¬ Blk k F b := fun b hb => by
 refine ⟨hfresh b hb, fun hB => ?_⟩;obtain ⟨i, ob, g, h1, h2, h3⟩ := hB;exact absurd (hsat.lt ⟨i, ob, g, by rw [zab, h1], h2, h3⟩) (by omega)
theorem zjR {k k' : Kr} {own : Nat -> Prop} {F : List (Nat × Ob)} {nx : Nat} {w w' : World} (hfresh : ∀ b, w.heap.size <= b -> own b) (hin : In (.of (fun b => own b /\ ¬ Blk k F b) k nx w) k' w') : In (.of own k nx w) k' w' :=
 ⟨hin.le, hin.none0, fun b o x hx => (hin.memNew b o x hx).imp id (·.1), hfresh, hin.os, hin.tape, hin.output, hin.size, fun b hb => hin.block b fun hb' => hb hb'.1⟩
theorem RetX.frame {P f ds obs nx post} (F : List (Nat × Ob)) (hF : ∀ i ob, getK F i = some ob -> getK obs i = none) (h : RetX P f ds obs nx post) :
  RetX P f ds (F ++ obs) nx (fun r o n => ∃ o1, o = F ++ o1 /\ post r o1 n) := by
 intro k own w vs hsat hhdr hfresh hrep;refine (h k _ w vs (zgJ hF hsat) hhdr (zfW hsat hfresh) hrep).mono ?_;rintro e w' ⟨r, o1, n', k', he, hin, hs1, hh1, hle, hp⟩;exact ⟨r, F ++ o1, n', k', he, zjR hfresh hin, zh4 hsat hin hs1, hh1, hle, o1, rfl, hp⟩
theorem EffP.zvm {P Γ s k} {fop : Operand} {args : Array Operand} {ts : Array TypeId} {ty : TypeId} {f caps dst pos after} {ds : List D} {post : Out -> List (Nat × Ob) -> Nat -> Prop}
  (hf : zag (opd s fop) = some (f, caps)) (hc : zae P f = true) (hds : args.toList.map (opd s) ++ caps = ds) (hret : RetX P f ds s.obs s.next post) (hp : zaq dst s)
  (hk : ∀ d obs' nx', s.next <= nx' -> post (.val d) obs' nx' -> k (({ s with obs := obs', next := nx' } : St).put dst d))
  (hx : ∀ ch obs' nx', s.next <= nx' -> post (.pan ch) obs' nx' -> ∃ s2, Wk Γ { s with obs := obs', next := nx' } s2 /\ Γ.pan ch s2) :
  EffP P Γ { dst, op := .call { callee := .value fop, args, argTypes := ts }, type := ty, pos, after, guard := none } s k := by
 intro K a w hin hs Kont Q hK hP;obtain ⟨vs, hrep, hrun⟩ := zj9 hs (args := args) (ts := ts) (ty := ty) hf hc dst pos after none;rw [hds] at hrep;unfold Oper.wp;rw [hrun];refine Calls.mono (hret K Γ.own w vs hs.sat hs.hdr (fun b hb => hin.own_of_ge hb) hrep) ?_;rintro e w' ⟨r, obs', nx', k', hr, hin', hsat', hhdr', hnx, hpost⟩;have hle : K.le k' := hin'.le;have hin2 : In Γ k' w' := hin.step hle (fun b o v e => hin'.memNew b o v e) hin'.os hin'.tape hin'.output hin'.size hin'.block;have hsim : Sim k' Γ.own ({ s with obs := obs', next := nx' } : St) a w' := ⟨hsat', hs.defers, hs.size, fun x d hx => ⟨(hs.env x d hx).1, (hs.env x d hx).2.mono hle⟩, hhdr'⟩;cases r with
 | val d =>
  obtain ⟨v, rfl, hr⟩ := hr;exact hK k' _ w' _ hin2 (hsim.put (by cases dst <;> simp_all [zaq]) hr) (hk d obs' nx' hnx hpost)
 | pan ch =>
  obtain rfl := hr;obtain ⟨s2, hw, hpn⟩ := hx ch obs' nx' hnx hpost;obtain ⟨k2, g1, g2⟩ := hw k' a w' hin2 hsim;exact hP ch k2 a w' s2 g1 g2 hpn
theorem CallP.x_ {P : Program} {Γ : Ctx} {s : St} {k : St -> Prop} {dst : Option Tmp} {fop : Operand} {args : List Operand} {f caps} {ds : List D} {post : Out -> List (Nat × Ob) -> Nat -> Prop} (hret : RetX P f ds s.obs s.next post)
  (hf : zag (opd s fop) = some (f, caps)) (hc : zae P f = true) (hds : args.map (opd s) ++ caps = ds) (hp : zaq dst s)
  (hk : ∀ d obs' nx', s.next <= nx' -> post (.val d) obs' nx' -> k (({ s with obs := obs', next := nx' } : St).put dst d))
  (hx : ∀ ch obs' nx', s.next <= nx' -> post (.pan ch) obs' nx' -> ∃ s2, Wk Γ { s with obs := obs', next := nx' } s2 /\ Γ.pan ch s2) : CallP P Γ fop args dst s k :=
 fun _ _ _ _ => EffP.zvm hf hc hds hret hp hk hx
theorem CallP.xF {P : Program} {Γ : Ctx} {s : St} {k : St -> Prop} {dst : Option Tmp} {fop : Operand} {args : List Operand} {f caps} {ds : List D} {post : Out -> List (Nat × Ob) -> Nat -> Prop} (F obs : List (Nat × Ob)) (hret : RetX P f ds obs s.next post)
  (heq : ∀ i, getK s.obs i = getK (F ++ obs) i) (hF : ∀ i ob, getK F i = some ob -> getK obs i = none)
  (hf : zag (opd s fop) = some (f, caps)) (hc : zae P f = true) (hds : args.map (opd s) ++ caps = ds) (hp : zaq dst s)
  (hk : ∀ d o1 nx', s.next <= nx' -> post (.val d) o1 nx' -> k (({ s with obs := F ++ o1, next := nx' } : St).put dst d))
  (hx : ∀ ch o1 nx', s.next <= nx' -> post (.pan ch) o1 nx' -> ∃ s2, Wk Γ { s with obs := F ++ o1, next := nx' } s2 /\ Γ.pan ch s2) : CallP P Γ fop args dst s k :=
 CallP.x_ ((hret.frame F hF).congr heq) hf hc hds hp (fun d o n hn ⟨o1, ho, hpo⟩ => by subst ho; exact hk d o1 n hn hpo) (fun ch o n hn ⟨o1, ho, hpo⟩ => by subst ho; exact hx ch o1 n hn hpo)
theorem CallP.x0 {P : Program} {Γ : Ctx} {s : St} {k : St -> Prop} {dst : Option Tmp} {fop : Operand} {args : List Operand} {f caps} {ds : List D} {post : Out -> List (Nat × Ob) -> Nat -> Prop} (hret : RetX P f ds [] s.next post)
  (hf : zag (opd s fop) = some (f, caps)) (hc : zae P f = true) (hds : args.map (opd s) ++ caps = ds) (hp : zaq dst s)
  (hk : ∀ d o1 nx', s.next <= nx' -> post (.val d) o1 nx' -> k (({ s with obs := s.obs ++ o1, next := nx' } : St).put dst d))
  (hx : ∀ ch o1 nx', s.next <= nx' -> post (.pan ch) o1 nx' -> ∃ s2, Wk Γ { s with obs := s.obs ++ o1, next := nx' } s2 /\ Γ.pan ch s2) : CallP P Γ fop args dst s k :=
 CallP.xF s.obs [] hret (fun i => by simp) (fun i ob _ => rfl) hf hc hds hp hk hx
theorem CallP.x1 {P : Program} {Γ : Ctx} {s : St} {k : St -> Prop} {dst : Option Tmp} {fop : Operand} {args : List Operand} {f caps} {ds : List D} {post : Out -> List (Nat × Ob) -> Nat -> Prop} {j : Nat} {ob : Ob} (hret : RetX P f ds [(j, ob)] s.next post)
  (hj : getK s.obs j = some ob) (hf : zag (opd s fop) = some (f, caps)) (hc : zae P f = true) (hds : args.map (opd s) ++ caps = ds) (hp : zaq dst s)
  (hk : ∀ d o1 nx', s.next <= nx' -> post (.val d) o1 nx' -> k (({ s with obs := del s.obs j ++ o1, next := nx' } : St).put dst d))
  (hx : ∀ ch o1 nx', s.next <= nx' -> post (.pan ch) o1 nx' -> ∃ s2, Wk Γ { s with obs := del s.obs j ++ o1, next := nx' } s2 /\ Γ.pan ch s2) : CallP P Γ fop args dst s k :=
 CallP.xF (del s.obs j) [(j, ob)] hret (fun i => by
  rw [zab, zac];by_cases h : i = j
  ·subst h; simp [hj, getK]
  ·simp only [if_neg h, getK];cases getK s.obs i <;> rfl) (fun i o hi => by
  rw [zac] at hi;by_cases h : i = j
  ·rw [if_pos h] at hi; cases hi
  ·simp [getK, h]) hf hc hds hp hk hx
theorem CallP.ok1 {P : Program} {Γ : Ctx} {s : St} {k : St -> Prop} {dst : Option Tmp} {fop : Operand} {args : List Operand} {f caps} {ds : List D} {j : Nat} {ob ob' : Ob} {d : D}
  (hret : RetX P f ds [(j, ob)] s.next fun r o n => r = .val d /\ o = [(j, ob')] /\ n = s.next)
  (hj : getK s.obs j = some ob) (hf : zag (opd s fop) = some (f, caps)) (hc : zae P f = true) (hds : args.map (opd s) ++ caps = ds) (hp : zaq dst s)
  (hk : k (({ s with obs := del s.obs j ++ [(j, ob')], next := s.next } : St).put dst d)) : CallP P Γ fop args dst s k :=
 CallP.x1 hret hj hf hc hds hp (fun d' o1 nx' _ ⟨h1, h2, h3⟩ => by cases h1; subst h2; subst h3; exact hk) (fun ch o1 nx' _ ⟨h1, _⟩ => by cases h1)
theorem CallP.zhq {P : Program} {Γ : Ctx} {s : St} {k : St -> Prop} {dst : Option Tmp} {fop : Operand} {args : List Operand} {f caps} {ds : List D} {j : Nat} {ob : Ob} {ch : List PanicEntry} {p : Ob -> Prop}
  (hret : RetX P f ds [(j, ob)] s.next fun r o n => r = .pan ch /\ (∃ ob', p ob' /\ o = [(j, ob')]) /\ n = s.next)
  (hj : getK s.obs j = some ob) (hf : zag (opd s fop) = some (f, caps)) (hc : zae P f = true) (hds : args.map (opd s) ++ caps = ds) (hp : zaq dst s)
  (hx : ∀ ob', p ob' -> ∃ s2, Wk Γ { s with obs := del s.obs j ++ [(j, ob')], next := s.next } s2 /\ Γ.pan ch s2) : CallP P Γ fop args dst s k :=
 CallP.x1 hret hj hf hc hds hp (fun d' o1 nx' _ ⟨h1, _⟩ => by cases h1) (fun ch' o1 nx' _ ⟨h1, ⟨ob', h2, h3⟩, h4⟩ => by cases h1; subst h3; subst h4; exact hx ob' h2)
theorem CallP.x2 {P : Program} {Γ : Ctx} {s : St} {k : St -> Prop} {dst : Option Tmp} {fop : Operand} {args : List Operand} {f caps} {ds : List D} {post : Out -> List (Nat × Ob) -> Nat -> Prop} {j q : Nat} {ob oq : Ob} (hret : RetX P f ds [(j, ob), (q, oq)] s.next post)
  (hj : getK s.obs j = some ob) (hq : getK s.obs q = some oq) (hne : j ≠ q) (hf : zag (opd s fop) = some (f, caps)) (hc : zae P f = true) (hds : args.map (opd s) ++ caps = ds) (hp : zaq dst s)
  (hk : ∀ d o1 nx', s.next <= nx' -> post (.val d) o1 nx' -> k (({ s with obs := del (del s.obs j) q ++ o1, next := nx' } : St).put dst d))
  (hx : ∀ ch o1 nx', s.next <= nx' -> post (.pan ch) o1 nx' -> ∃ s2, Wk Γ { s with obs := del (del s.obs j) q ++ o1, next := nx' } s2 /\ Γ.pan ch s2) : CallP P Γ fop args dst s k :=
 CallP.xF (del (del s.obs j) q) [(j, ob), (q, oq)] hret (fun i => by
  rw [zab, zac, zac];by_cases h : i = q
  ·subst h; rw [if_pos rfl]; simp [getK, Ne.symm hne, hq]
  ·rw [if_neg h];by_cases h2 : i = j
   ·subst h2; simp [hj, getK]
   ·simp only [if_neg h2, getK, if_neg h];cases getK s.obs i <;> rfl) (fun i o hi => by
  rw [zac, zac] at hi;by_cases h : i = q
  ·rw [if_pos h] at hi; cases hi
  ·rw [if_neg h] at hi;by_cases h2 : i = j
   ·rw [if_pos h2] at hi; cases hi
   ·simp [getK, h, h2]) hf hc hds hp hk hx
def Ctx.base (Γ : Ctx) : Ctx := .of Γ.own.own Γ.k0 Γ.n0 Γ.w0
def PanG (Γ : Ctx) (post : Out -> List (Nat × Ob) -> Nat -> Prop) (ch : List PanicEntry) (s : St) : Prop := ∃ s', Wk Γ s s' /\ Γ.n0 <= s'.next /\ post (.pan ch) s'.obs s'.next
def RX (Γ : Ctx) (post : Out -> List (Nat × Ob) -> Nat -> Prop) (e : Ending) (w' : World) : Prop :=
 ∃ r obs' nx' k', zsk k' e r /\ In Γ k' w' /\ Sat k' Γ.own obs' w' /\ (∀ i, nx' <= i -> k'.hdr i = none) /\ Γ.n0 <= nx' /\ post r obs' nx'
theorem zdg {P Γ fn e s K a w} {post : Out -> List (Nat × Ob) -> Nat -> Prop} (hend : EndW P Γ fn Γ.n0 (fun d o n => post (.val d) o n) e s) (hin : In Γ K w) (hs : Sim K Γ.own s a w) :
  ∃ v, (results fn a.tmps).run P w = .ok v w /\ RX Γ post (.returned v) w := by
 obtain ⟨s', hw, _, hres⟩ := hend;obtain ⟨K', hin, hs⟩ := hw K a w hin hs;obtain ⟨rs, rv, hfin, hrun, hlen, hr⟩ := zhb hs _ _ hres;have hres' : (results fn a.tmps).run P w = .ok (if h : rv.toArray.size = 1 then rv.toArray[0] else .tuple rv.toArray) w := by
  unfold results;rw [Array.mapM_eq_mapM_toList];have e : (fn.results.toList.mapM fun (x : ResultVar) => match x with | .tmp t => (pure (a.tmps.getD t undef) : Sem Value) | .cell x t => do loadVar t (<- asAddr (a.tmps.getD x undef))).run P w = .ok rv w := hrun;simp only [Sem.run_bind, Sem.run_map, Result.andThen_ok]
  erw [e]
  simp
 have hrepv : Rep K' (zas rs) (if h : rv.toArray.size = 1 then rv.toArray[0] else .tuple rv.toArray) := by
  match rs, rv, hlen, hr with
  | [], [], _, hr => exact .tup [] [] rfl (by simp)
  | [d], [v], _, hr => simpa [zas] using hr 0 d rfl
  | d :: d1 :: ds, v :: v1 :: vs, hlen, hr =>
   simp only [zas];rw [dif_neg (by simp)];exact .tup _ _ hlen hr
 refine ⟨_, hres', ?_⟩;rcases hfin with ⟨s2, ρ, d', hle, hd, hu, hnx, hpost⟩ | ⟨hnx, hpost⟩
 ·obtain ⟨h1, h2⟩ := Sim.weak hin hs hle;exact ⟨.val d', s2.obs, s2.next, _, ⟨_, rfl, hrepv.weak hd hu⟩, h1, h2.sat, h2.hdr, hnx, hpost⟩
 ·exact ⟨.val _, s'.obs, s'.next, K', ⟨_, rfl, hrepv⟩, hin, hs.sat, hs.hdr, hnx, hpost⟩
theorem RX.conv {Γ Γ' : Ctx} {post e w'} (h : RX Γ post e w') (h1 : Γ'.own.own = Γ.own.own) (h2 : Γ'.k0 = Γ.k0) (h3 : Γ'.n0 = Γ.n0) (h4 : Γ'.w0 = Γ.w0) : RX Γ' post e w' := by
 obtain ⟨r, o, n, k', a, b, c, d, e, f⟩ := h;exact ⟨r, o, n, k', a, b.conv h1 h2 h3 h4, by rw [h1]; exact c, d, by rw [h3]; exact e, f⟩
theorem Wk.conv {Γ Γ' : Ctx} {s s'} (h : Wk Γ s s') (h1 : Γ'.own = Γ.own) (h2 : Γ'.k0 = Γ.k0) (h3 : Γ'.n0 = Γ.n0) (h4 : Γ'.w0 = Γ.w0) : Wk Γ' s s' := fun K a w hin hs => by
 obtain ⟨K', g1, g2⟩ := h K a w (hin.conv (by rw [h1]) h2.symm h3.symm h4.symm) (by rw [<- h1]; exact hs);exact ⟨K', g1.conv (by rw [h1]) h2 h3 h4, by rw [h1]; exact g2⟩
theorem RetX.zfK {P f fn c ds obs nx post} (hf : P.funcs[f]? = some fn) (hb : fn.body = some c) (hn : ds.length <= fn.ntmps)
  (h : ∀ Γ : Ctx, Γ.n0 = nx -> Γ.own.dfr = [] -> (∀ ch s, PanG Γ post ch s -> Γ.pan ch s) -> (∀ e a w', bodyPostD P fn (RX Γ.base post) e a w' -> Γ.esc e a w') -> V P Γ c (entry ds fn.ntmps obs nx) (za3 P Γ (EndW P Γ fn nx fun d o n => post (.val d) o n) .done)) : RetX P f ds obs nx post := by
 intro k own w vs hsat hhdr hfresh hrep;have hsz : vs.size = ds.length := hrep.1
 let Γ0 : Ctx := .of own k nx w
 let Γ : Ctx := ⟨⟨own, []⟩, k, nx, w, PanG Γ0 post, bodyPostD P fn (RX Γ0 post)⟩
 have hpan : ∀ ch s, PanG Γ post ch s -> Γ.pan ch s := fun ch s ⟨s', h1, h2, h3⟩ => ⟨s', h1.conv rfl rfl rfl rfl, h2, h3⟩;have hR : ∀ e w', RX Γ post e w' -> RX Γ0 post e w' := fun e w' h => h.conv rfl rfl rfl rfl;have hesc : ∀ e a w', bodyPostD P fn (RX Γ.base post) e a w' -> Γ.esc e a w' := fun e a w' h => h;refine calls_of_wp_defers (R := RX Γ0 post) hf hb (wp_mono (h Γ rfl rfl hpan hesc k _ w ⟨.refl _, hhdr, fun b o v e => .inl e, hfresh, rfl, rfl, rfl, Nat.le_refl _, fun _ _ => rfl⟩
  ⟨hsat, rfl, ?_, fun x d hx => ?_, hhdr⟩) ?_)
 ·simp [entry, hsz]; omega
 ·simp only [entry, zek, Nat.zero_le, if_true, Nat.sub_zero] at hx;have hlt := (List.getElem?_eq_some_iff.1 hx).1;refine ⟨by simp [entry]; omega, ?_⟩;have := hrep.2 x d hx;have e : (vs ++ Array.replicate (fn.ntmps - vs.size) undef).getD x undef = vs.getD x undef := by
   simp [Array.getElem?_append, show x < vs.size by omega]
  rw [e];exact this
 ·rintro e a' w' (⟨K', s', hin, hs, hend⟩ | hx)
  ·have hd : a'.defers = [] := hs.defers;cases e with
   | panic ch =>
    obtain ⟨s2, hw, hn2, hp⟩ := (hend : PanG Γ0 post ch s');obtain ⟨K2, h1, h2⟩ := hw K' a' w' (hin.conv rfl rfl rfl rfl) hs;show Leaves P fn a'.tmps (RX Γ0 post) a'.defers (.panicking ch) w';rw [hd];exact ⟨.pan ch, s2.obs, s2.next, K2, rfl, h1, h2.sat, h2.hdr, hn2, hp⟩
   | normal =>
    obtain ⟨v, h1, h2⟩ := zdg (Γ := Γ) (post := post) hend hin hs;show Leaves P fn a'.tmps (RX Γ0 post) a'.defers .returning w';rw [hd];exact ⟨v, h1, hR _ _ h2⟩
   | ret =>
    obtain ⟨v, h1, h2⟩ := zdg (Γ := Γ) (post := post) hend hin hs;show Leaves P fn a'.tmps (RX Γ0 post) a'.defers .returning w';rw [hd];exact ⟨v, h1, hR _ _ h2⟩
   | exit i => obtain ⟨_, _, h1, _⟩ := hend; rcases h1 with h1 | h1 <;> cases h1
   | goto i => obtain ⟨_, _, h1, _⟩ := hend; rcases h1 with h1 | h1 <;> cases h1
   | outgrown => obtain ⟨_, _, h1, _⟩ := hend; rcases h1 with h1 | h1 <;> cases h1
  ·exact hx.2
theorem RetX.of_bodyW {P f fn c ds obs nx post} (hf : P.funcs[f]? = some fn) (hb : fn.body = some c) (hn : ds.length <= fn.ntmps)
  (h : ∀ Γ : Ctx, Γ.n0 = nx -> (∀ ch s, PanG Γ post ch s -> Γ.pan ch s) -> V P Γ c (entry ds fn.ntmps obs nx) (za3 P Γ (EndW P Γ fn nx fun d o n => post (.val d) o n) .done)) : RetX P f ds obs nx post :=
 RetX.zfK hf hb hn fun Γ h1 _ h2 _ => h Γ h1 h2
end Go.VL
namespace Go.VL
open Go
@[irreducible] def zqj (c : Code) : Code := c
theorem ze2 (c : Code) : zqj c = c := by unfold zqj; rfl
theorem zfE {id : Nat} {o1 : Oper} {dst : Option Tmp} {cl : Call} {type : TypeId} {pos : String} {after : Array Edge} {guard : Option (Nat × Bool)} {rest : Code} :
  Code.seq (.region id #[o1, { dst, op := .defer cl, type, pos, after, guard }] false) rest = zqj (.seq (.region id #[o1, { dst, op := .defer cl, type, pos, after, guard }] false) rest) := (ze2 _).symm
def RetDf (P : Program) (g : FuncId) (caps : List D) (obs : List (Nat × Ob)) (nx : Nat) (u : FrameMode) (post : FrameMode -> List (Nat × Ob) -> Nat -> Prop) : Prop :=
 ∀ (k : Kr) (own : Nat -> Prop) (w : World) (vs : Array Value), Sat k own obs w -> (∀ i, nx <= i -> k.hdr i = none) -> (∀ b, w.heap.size <= b -> own b) -> RepL k caps vs ->
  CallsD P g vs u w fun e u' w' => ∃ v obs' nx' k', e = .returned v /\ In (.of own k nx w) k' w' /\ Sat k' own obs' w' /\ (∀ i, nx' <= i -> k'.hdr i = none) /\ nx <= nx' /\ post u' obs' nx'
theorem RetDf.mono {P g caps obs nx u} {p q : FrameMode -> List (Nat × Ob) -> Nat -> Prop} (h : RetDf P g caps obs nx u p) (hq : ∀ u o n, p u o n -> q u o n) : RetDf P g caps obs nx u q :=
 fun k own w vs h1 h2 h3 h4 => (h k own w vs h1 h2 h3 h4).mono fun _ _ _ ⟨v, o, n, k', e, a, b, c, d, hp⟩ => ⟨v, o, n, k', e, a, b, c, d, hq _ _ _ hp⟩
theorem RetDf.congr {P g caps obs obs' nx u post} (h : RetDf P g caps obs nx u post) (e : ∀ i, getK obs' i = getK obs i) : RetDf P g caps obs' nx u post :=
 fun k own w vs hsat hhdr hfresh hrep => h k own w vs (Sat.congr hsat fun i => (e i).symm) hhdr hfresh hrep
theorem RetDf.frame {P g caps obs nx u post} (F : List (Nat × Ob)) (hF : ∀ i ob, getK F i = some ob -> getK obs i = none) (h : RetDf P g caps obs nx u post) :
  RetDf P g caps (F ++ obs) nx u (fun u o n => ∃ o1, o = F ++ o1 /\ post u o1 n) := by
 intro k own w vs hsat hhdr hfresh hrep;refine (h k _ w vs (zgJ hF hsat) hhdr (zfW hsat hfresh) hrep).mono ?_;rintro e u' w' ⟨v, o1, n', k', he, hin, hs1, hh1, hle, hp⟩;exact ⟨v, F ++ o1, n', k', he, zjR hfresh hin, zh4 hsat hin hs1, hh1, hle, o1, rfl, hp⟩
def LeaveD (P : Program) (Γb : Ctx) (fn : Func) (post : Out -> List (Nat × Ob) -> Nat -> Prop) (g : FuncId) (caps : List D) (u : FrameMode) (s : St) : Prop :=
 RetDf P g caps s.obs s.next u fun u' o n => settle u' = .returning /\ EndW P Γb fn Γb.n0 (fun d o n => post (.val d) o n) .ret { s with obs := o, next := n }
def zzO (P : Program) (Γb : Ctx) (fn : Func) (post : Out -> List (Nat × Ob) -> Nat -> Prop) (g : FuncId) (caps : List D) (e : Exit) (s : St) : Prop := e = .ret /\ LeaveD P Γb fn post g caps .returning s
theorem znQ {P Γ Γ' fn post g caps u s K K1 a w w1} (hmode : u ≠ .run) (h : LeaveD P Γ.base fn post g caps u s) (hin1 : In Γ K1 w1) (hin : In Γ' K w) (hs : Sim K Γ'.own s a w) (ho : Γ'.own.own = Γ.own.own) (hk : Γ'.k0 = K1) (hn : ∀ i, Γ'.n0 <= i -> K1.hdr i = none) (hw : Γ'.w0 = w1)
  (hc : zae P g = true) (vs : Array Value) (hrep : RepL K1 caps vs) :
  Leaves P fn a.tmps (RX Γ.base post) [{ target := .fn (.func g) vs, args := #[] }] u w := by
 have hle1 : K1.le K := by rw [<- hk]; exact hin.le
 have hin0 : In Γ K w := hin1.step hle1 (fun b o v e => by have := hin.memNew b o v e; rw [hk, ho] at this; exact this) (by rw [hin.os, hw]) (by rw [hin.tape, hw]) (by rw [hin.output, hw]) (by have := hin.size; rw [hw] at this; exact this)
  (fun b hb => by have := hin.block b (by rw [ho]; exact hb); rw [hw] at this; exact this)
 refine leaves_cons (f := g) (args := vs) hmode ?_ ?_
 ·unfold zae at hc;split at hc
  ·rename_i fn' hfn;simp at hc;obtain ⟨hb, hname⟩ := hc;have hb' : fn'.body.isNone = false := by cases hbb : fn'.body <;> simp_all
   simp [invoke, callFunc, hfn, hb', hname];intro h0;rw [h0] at hb;simp at hb
  ·cases hc
 ·refine (h K Γ'.own.own w vs hs.sat hs.hdr (fun b hb => by rw [ho]; exact hin0.own_of_ge hb) ⟨hrep.1, fun j d hj => (hrep.2 j d hj).mono hle1⟩).mono ?_;rintro e u' w' ⟨v, o, n, k', rfl, hin2, hsat, hhdr, hnx, hset, hend⟩;rw [ho] at hin2 hsat;have hin3 : In Γ k' w' := hin0.step hin2.le (fun b o v e => hin2.memNew b o v e) hin2.os hin2.tape hin2.output hin2.size hin2.block;have hsim : Sim k' Γ.base.own ({ s with obs := o, next := n } : St) { a with defers := [] } w' := ⟨hsat, rfl, hs.size, fun x d hx => ⟨(hs.env x d hx).1, (hs.env x d hx).2.mono hin2.le⟩, hhdr⟩;obtain ⟨v', h1, h2⟩ := zdg (Γ := Γ.base) (post := post) hend (hin3.conv rfl rfl rfl rfl) hsim;show Leaves P fn a.tmps (RX Γ.base post) [] (settle u') w';rw [hset];exact ⟨v', h1, h2⟩
theorem zkd {P Γ fn post s Q kt id g t type pos after type2 pos2 after2 rest} {ts : Array TypeId} {caps : List Operand}
  (hesc : ∀ e a w', bodyPostD P fn (RX Γ.base post) e a w' -> Γ.esc e a w') (hd : Γ.own.dfr = []) (hc : zae P g = true) (ht : t < s.n)
  (h : ∀ Γ' : Ctx, Γ'.n0 = s.next -> (∀ ch s2, LeaveD P Γ.base fn post g (caps.map (opd s)) (.panicking ch) s2 -> Γ'.pan ch s2) ->
    V P Γ' rest (s.put (some t) (.fnc (.func g) (caps.map (opd s)))) (za3 P Γ' (zzO P Γ.base fn post g (caps.map (opd s))) .done)) :
  V P Γ (zqj (.seq (.region id #[{ dst := some t, op := .makeFunc (.func g) #[] caps.toArray, type := type, pos := pos, after := after, guard := none },
   { dst := none, op := .defer { callee := .value (.tmp t), args := #[], argTypes := ts }, type := type2, pos := pos2, after := after2, guard := none }] false) rest)) s (za3 P Γ Q kt) := by
 rw [ze2];intro K a w hin hs;refine wp_seq (wp_region_lit ?_);have hrep : RepL K (caps.map (opd s)) (caps.map a.eval).toArray := ⟨by simp, fun j d hj => by have := zfp hs caps j d hj; simpa using this⟩;have hfv : Rep K (.fnc (.func g) (caps.map (opd s))) (.func (.func g) #[] (caps.map a.eval).toArray) := .fnc _ _ _ (by simp) (zfp hs caps);have hts : t < a.tmps.size := by rw [hs.size]; exact ht
 refine wpList_plain rfl fun K1 hK1 => ?_;have hrun1 : (execOp a.eval { dst := some t, op := .makeFunc (.func g) #[] caps.toArray, type := type, pos := pos, after := after, guard := none }).run P w = .ok (.value (.func (.func g) #[] (caps.map a.eval).toArray)) w := by
  simp [execOp, Instr.makeFunc]
 unfold Oper.wp;rw [hrun1];refine hK1 _ _ (wpList_plain rfl fun K2 hK2 => ?_);generalize ha1 : (a.put (some t) (.func (.func g) #[] (caps.map a.eval).toArray)) = a1;have hev : a1.eval (.tmp t) = .func (.func g) #[] (caps.map a.eval).toArray := by
  subst ha1;simp [Act.eval, Act.put, hts]
 have hrun2 : (execOp a1.eval { dst := none, op := .defer { callee := .value (.tmp t), args := #[], argTypes := ts }, type := type2, pos := pos2, after := after2, guard := none }).run P w = .ok (.defer { target := .fn (.func g) (caps.map a.eval).toArray, args := #[] }) w := by
  simp [execOp, resolve, hev, Deferred.ofValue]
 unfold Oper.wp;rw [hrun2];refine hK2 _ _ ?_
 let Γ' : Ctx := ⟨⟨Γ.own.own, [{ target := .fn (.func g) (caps.map a.eval).toArray, args := #[] }]⟩, K, s.next, w, fun ch s2 => LeaveD P Γ.base fn post g (caps.map (opd s)) (.panicking ch) s2, fun _ _ _ => False⟩
 have hin' : In Γ' K w := ⟨.refl _, hs.hdr, fun b o v e => .inl e, fun b hb => hin.own_of_ge hb, rfl, rfl, rfl, Nat.le_refl _, fun _ _ => rfl⟩;have hs1 : Sim K Γ.own (s.put (some t) (.fnc (.func g) (caps.map (opd s)))) a1 w := by
  subst ha1;exact hs.put (by simpa [zaq] using ht) hfv
 have hs' : Sim K Γ'.own (s.put (some t) (.fnc (.func g) (caps.map (opd s)))) (({ a1 with defers := { target := .fn (.func g) (caps.map a.eval).toArray, args := #[] } :: a1.defers } : Act).put none undef) w :=
  ⟨hs1.sat, by have := hs1.defers; rw [hd] at this; show _ :: a1.defers = _; rw [this], hs1.size, hs1.env, hs1.hdr⟩
 refine wp_mono (h Γ' rfl (fun ch s2 h => h) K _ w hin' hs') ?_;rintro e a' w' (⟨K', s', h1, h2, h3⟩ | h3)
 ·have hdf : a'.defers = [{ target := .fn (.func g) (caps.map a.eval).toArray, args := #[] }] := h2.defers;have go : ∀ u, u ≠ .run -> LeaveD P Γ.base fn post g (caps.map (opd s)) u s' -> Leaves P fn a'.tmps (RX Γ.base post) a'.defers u w' := fun u hu hl => by
   rw [hdf];exact znQ hu hl hin h1 h2 rfl rfl hs.hdr rfl hc _ hrep
  cases e with
  | panic ch => exact .inr ⟨trivial, hesc _ _ _ (go (.panicking ch) (by simp) h3)⟩
  | ret => exact .inr ⟨trivial, hesc _ _ _ (go .returning (by simp) h3.2)⟩
  | normal => exact absurd h3.1 (by simp)
  | exit i => exact absurd h3.1 (by simp)
  | goto i => exact absurd h3.1 (by simp)
  | outgrown => exact absurd h3.1 (by simp)
 ·exact h3.2.elim
def HS (P : Program) (Γ : Ctx) : List Oper -> St -> (St -> Prop) -> Prop
 | [], s, k => k s
 | o :: l, s, k => o.guard = none /\ zbP P Γ o.dst o.op s fun s' => HS P Γ l s' k
theorem zsb {P Γ cs} {Q : Exit -> Act -> List Frame -> World -> Prop} {k : St -> Prop} (ops : Array Oper) : ∀ (l : List Oper) (i : Nat) (s : St) (K : Kr) (a : Act) (w : World), (∀ j, ops[i + j]? = l[j]?) -> HS P Γ l s k -> In Γ K w -> Sim K Γ.own s a w ->
  (∀ K' a' w' s', In Γ K' w' -> Sim K' Γ.own s' a' w' -> k s' -> Q .normal a' cs w') -> (∀ ch K' a' w' s', In Γ K' w' -> Sim K' Γ.own s' a' w' -> Γ.pan ch s' -> Q (.panic ch) a' cs w') ->
  wpOpsS P ops Q (List.range' i l.length) a cs w
 | [], i, s, K, a, w, _, h, hin, hs, hQ, _ => by simpa [wpOpsS] using hQ K a w s hin hs h
 | o :: l, i, s, K, a, w, ho, h, hin, hs, hQ, hP => by
  have h0 : ops[i]? = some o := by simpa using ho 0
  obtain ⟨hg, hst⟩ := h;rw [List.length_cons, List.range'_succ];unfold wpOpsS;rw [h0];simp only [Region.wanted, hg, if_true];have hw := zee hst K a w hin hs (fun a' w' => wpOpsS P ops Q (List.range' (i + 1) l.length) a' cs w') (fun e a' w' => Q e a' cs w')
   (fun K' a' w' s' h1 h2 h3 => zsb ops l (i + 1) s' K' a' w' (fun j => by have := ho (j + 1); simpa [Nat.add_assoc, Nat.add_comm 1 j] using this) h3 h1 h2 hQ hP) hP
  unfold Oper.wp at hw;split
  ·rename_i w' hr;rw [hr] at hw;exact hw.elim
  ·exact hw
def znw : FrameMode -> Value × FrameMode
 | .panicking ({ v, recovered := false, goexit := false } :: older) => (v, .panicking ({ v, recovered := true } :: older))
 | u => (.nilIface, u)
def zvM (Γ : Ctx) (post : FrameMode -> List (Nat × Ob) -> Nat -> Prop) (u' : FrameMode) (e : Exit) (s : St) : Prop := (e = .normal \/ e = .ret) /\ ∃ s', Wk Γ s s' /\ Γ.n0 <= s'.next /\ post u' s'.obs s'.next
theorem RetDf.of_body {P g fn caps obs nx u post id x type pos after l rest} (hf : P.funcs[g]? = some fn)
  (hb : fn.body = some (.seq (.region id ({ dst := some x, op := .call { callee := .builtin .recover, args := #[], argTypes := #[] }, type := type, pos := pos, after := after, guard := none } :: l : List Oper).toArray false) rest))
  (hn : caps.length <= fn.ntmps) (hx : x < fn.ntmps) (hres : fn.results = #[])
  (h : ∀ Γ : Ctx, Γ.n0 = nx -> HS P Γ l ((entry caps fn.ntmps obs nx).put (some x) (.u (.oth (znw u).1))) fun s' => V P Γ rest s' (za3 P Γ (zvM Γ post (znw u).2) .done)) : RetDf P g caps obs nx u post := by
 intro k own w vs hsat hhdr hfresh hrep;have hsz : vs.size = caps.length := hrep.1
 let Γ : Ctx := .of own k nx w
 have hin : In Γ k w := ⟨.refl _, hhdr, fun b o v e => .inl e, hfresh, rfl, rfl, rfl, Nat.le_refl _, fun _ _ => rfl⟩;have hs : Sim k Γ.own (entry caps fn.ntmps obs nx) { tmps := vs ++ Array.replicate (fn.ntmps - vs.size) undef, defers := [] } w := by
  refine ⟨hsat, rfl, ?_, fun y d hy => ?_, hhdr⟩
  ·simp [entry, hsz]; omega
  ·simp only [entry, zek, Nat.zero_le, if_true, Nat.sub_zero] at hy;have hlt := (List.getElem?_eq_some_iff.1 hy).1;refine ⟨by simp [entry]; omega, ?_⟩;have := hrep.2 y d hy;have e : (vs ++ Array.replicate (fn.ntmps - vs.size) undef).getD y undef = vs.getD y undef := by
    simp [Array.getElem?_append, show y < vs.size by omega]
   rw [e];exact this
 refine callsD_of_wpS hf hb fun c0 cs hm => wpS_seq (wpS_region ?_);have hsize : ({ dst := some x, op := .call { callee := .builtin .recover, args := #[], argTypes := #[] }, type := type, pos := pos, after := after, guard := none } :: l : List Oper).toArray.size = l.length + 1 := by simp
 rw [hsize, List.range_eq_range', List.range'_succ];generalize hops : ({ dst := some x, op := .call { callee := .builtin .recover, args := #[], argTypes := #[] }, type := type, pos := pos, after := after, guard := none } :: l : List Oper).toArray = ops;have h0 : ops[0]? = some { dst := some x, op := .call { callee := .builtin .recover, args := #[], argTypes := #[] }, type := type, pos := pos, after := after, guard := none } := by rw [<- hops]; simp
 unfold wpOpsS;rw [h0];have hrun : ∀ ρ : Operand -> Value, (execOp ρ { dst := some x, op := .call { callee := .builtin .recover, args := #[], argTypes := #[] }, type := type, pos := pos, after := after, guard := none }).run P w = .ok .recover w := fun ρ => by
  simp [execOp, resolve, invoke, builtin]
 simp only [Region.wanted, if_true, hrun];have hrec : recoverD (c0 :: cs) = some ((znw u).1, { c0 with mode := (znw u).2 } :: cs) \/ (recoverD (c0 :: cs) = none /\ (znw u).1 = .nilIface /\ { c0 with mode := (znw u).2 } = c0) := by
  subst hm;have same : ∀ m, c0.mode = m -> ({ c0 with mode := m } : Frame) = c0 := fun m h => by rw [<- h]
  cases hmo : c0.mode with
  | run => exact .inr ⟨by simp [recoverD, hmo], rfl, same _ hmo⟩
  | returning => exact .inr ⟨by simp [recoverD, hmo], rfl, same _ hmo⟩
  | panicking ch =>
   cases ch with
   | nil => exact .inr ⟨by simp [recoverD, hmo], rfl, same _ hmo⟩
   | cons e older =>
    obtain ⟨v, r, g⟩ := e;cases r <;> cases g
    ·exact .inl (by simp [recoverD, hmo, znw])
    ·exact .inr ⟨by simp [recoverD, hmo], rfl, same _ hmo⟩
    ·exact .inr ⟨by simp [recoverD, hmo], rfl, same _ hmo⟩
    ·exact .inr ⟨by simp [recoverD, hmo], rfl, same _ hmo⟩
 have main : wpOpsS P ops (Exit.thenS (rest.wpS P (bodyPostS P fn c0 cs fun e u' w' => ∃ v obs' nx' k', e = .returned v /\ In (.of own k nx w) k' w' /\ Sat k' own obs' w' /\ (∀ i, nx' <= i -> k'.hdr i = none) /\ nx <= nx' /\ post u' obs' nx'))
   (bodyPostS P fn c0 cs fun e u' w' => ∃ v obs' nx' k', e = .returned v /\ In (.of own k nx w) k' w' /\ Sat k' own obs' w' /\ (∀ i, nx' <= i -> k'.hdr i = none) /\ nx <= nx' /\ post u' obs' nx')) (List.range' (0 + 1) l.length)
   (Act.put { tmps := vs ++ Array.replicate (fn.ntmps - vs.size) undef, defers := [] } (some x) (znw u).1) ({ c0 with mode := (znw u).2 } :: cs) w := by
  refine zsb ops l (0 + 1) _ k _ w (fun j => by rw [<- hops]; simp [Nat.add_comm 1 j]) (h Γ rfl) hin (hs.put (by simpa [zaq, entry] using hx) (.u _ _ (.oth _))) (fun K' a' w' s' h1 h2 h3 => ?_) (fun ch K' a' w' s' _ _ h3 => h3.elim);refine wpS_of_wp (wp_mono (h3 K' a' w' h1 h2) ?_);rintro e a2 w2 (⟨K2, s2, g1, g2, g3⟩ | g3)
  ·have hd2 : a2.defers = [] := g2.defers;have fin : zvM Γ post (znw u).2 e s2 -> a2.defers = [] /\ ∃ u', ({ c0 with mode := (znw u).2 } :: cs : List Frame) = { c0 with mode := u' } :: cs /\ ∃ v, (results fn a2.tmps).run P w2 = .ok v w2 /\
     ∃ v' obs' nx' k', Ending.returned v = .returned v' /\ In (.of own k nx w) k' w2 /\ Sat k' own obs' w2 /\ (∀ i, nx' <= i -> k'.hdr i = none) /\ nx <= nx' /\ post u' obs' nx' := fun ⟨_, s3, hw, hnx, hp⟩ => by
    obtain ⟨K3, q1, q2⟩ := hw K2 a2 w2 g1 g2;exact ⟨hd2, _, rfl, .tuple #[], by simp [results, hres], _, s3.obs, s3.next, K3, rfl, q1, q2.sat, q2.hdr, hnx, hp⟩
   cases e with
   | normal => exact fin g3
   | ret => exact fin g3
   | panic ch => exact g3.elim
   | exit i => rcases g3.1 with h | h <;> cases h
   | goto i => rcases g3.1 with h | h <;> cases h
   | outgrown => rcases g3.1 with h | h <;> cases h
  ·exact g3.2.elim
 rcases hrec with hr | ⟨hr, h1, h2⟩
 ·rw [hr];exact main
 ·rw [hr];rw [h1, h2] at main;exact main
end Go.VL
namespace Go.VL
open Go
def ztr (P : Program) (Γ : Ctx) (s : St) (op : Op) : Prop :=
 ∀ s' : St, s'.n = s.n -> (∀ y, getK s'.obs y = getK s.obs y) -> (∀ x ∈ op.operands, opd s' x = opd s x) -> s.next <= s'.next -> ∀ o : Oper, o.op = op -> o.guard = none -> zaq o.dst s' -> EffP P Γ o s' fun _ => False
def ztF (P : Program) (N : Nat) (s : St) (op : Op) (d : D) (W : Wr) (R : List Nat) : Prop :=
 ∃ fop args f caps, ∃ (O O' : List (Nat × Ob)) (L : List Nat), zbf op = some (fop, args) /\ zag (opd s fop) = some (f, caps) /\ zae P f = true /\ R = O.map (·.1) /\ (∀ y, y ∈ zdC W ↔ L.contains y = true /\ y ∈ O.map (·.1)) /\ (∀ y, y ∈ zdC W -> getK W y = some (getK O' y)) /\
  (∀ y, L.contains y = false -> getK O' y = getK O y) /\ (∀ p ∈ O, getK s.obs p.1 = some p.2) /\ (O.map (·.1)).Nodup /\ (d.under N = true /\ ∀ p ∈ O', p.2.under N = true) /\
  ∀ nx, s.next <= nx -> RetX P f (args.map (opd s) ++ caps) O nx fun r o n => r = .val d /\ (∀ y, getK o y = getK O' y) /\ n = nx
def zvn (P : Program) (N : Nat) (s : St) (op : Op) (d : D) (W : Wr) (cr : Option Nat) (R : List Nat) : Prop :=
 ∃ fop args f caps, ∃ (O : List (Nat × Ob)) (e : ERes) (nb : Ob) (x0 : Nat), zbf op = some (fop, args) /\ zag (opd s fop) = some (f, caps) /\ zae P f = true /\ R = O.map (·.1) /\ (e.U = [] /\ e.nw = some nb /\ nb.under N = true) /\
  (cr = some x0 /\ W = (x0, some nb) :: e.U /\ d = mkD e.how x0) /\ (∀ p ∈ O, getK s.obs p.1 = some p.2) /\
  ∀ nx, s.next <= nx -> RetX P f (args.map (opd s) ++ caps) O nx fun r o n => r = .val (mkD e.how nx) /\ (∀ y, getK o y = getK ((nx, nb) :: O) y) /\ n = nx + 1
def ztu (P : Program) (N : Nat) (s : St) (op : Op) (dst : Option Tmp) (d : D) (W : Wr) (cr : Option Nat) (R : List Nat) : Prop :=
 Op1 P s op dst d W cr R \/ (ztF P N s op d W R /\ cr = none) \/ zvn P N s op d W cr R
def zus (P : Program) (N : Nat) (all : Array Oper) (s : St) (o : Oper) (d : D) (W : Wr) (cr : Option Nat) (R : List Nat) : Prop :=
 match o.guard with
 | none => ztu P N s o.op o.dst d W cr R
 | some (j, want) => ∃ t, zaH all j = some t /\ ((∃ b, getK s.env t = some (.u (.bool b)) /\
  if b = want then ztu P N s o.op o.dst d W cr R else d = .un /\ W = [] /\ cr = none) \/ (getK s.env t = some .un /\ d = .un /\ W = [] /\ cr = none))
theorem zdf {α : Type} (l : List (Nat × α)) (c : List Nat) (y : Nat) : getK (l.filter fun p => !c.contains p.1) y = if c.contains y = true then none else getK l y := by
 induction l with
 | nil => simp [getK]
 | cons p l ih =>
  obtain ⟨k, x⟩ := p;rw [List.filter_cons];by_cases hk : c.contains k = true
  ·rw [if_neg (by simpa using hk), ih, zaa];by_cases hy : y = k
   ·subst hy; rw [if_pos hk, if_pos hk]
   ·rw [if_neg hy]
  ·rw [if_pos (by simpa using hk), zaa, zaa, ih];by_cases hy : y = k
   ·subst hy; rw [if_pos rfl, if_pos rfl, if_neg hk]
   ·rw [if_neg hy, if_neg hy]
theorem zk2 {α : Type} (l : List (Nat × α)) (c : List Nat) (y : Nat) : getK (l.filter fun p => c.contains p.1) y = if c.contains y = true then getK l y else none := by
 induction l with
 | nil => simp [getK]
 | cons p l ih =>
  obtain ⟨k, x⟩ := p;rw [List.filter_cons];by_cases hk : c.contains k = true
  ·rw [if_pos (by exact hk), zaa, zaa, ih];by_cases hy : y = k
   ·subst hy; rw [if_pos rfl, if_pos rfl, if_pos hk]
   ·rw [if_neg hy, if_neg hy]
  ·rw [if_neg (by exact hk), ih, zaa];by_cases hy : y = k
   ·subst hy; rw [if_neg hk, if_neg hk]
   ·rw [if_neg hy]
theorem zft {α : Type} {l : List (Nat × α)} {y : Nat} {x : α} (h : getK l y = some x) : (y, x) ∈ l := by
 induction l with
 | nil => cases h
 | cons p l ih =>
  obtain ⟨k, d⟩ := p;rw [zaa] at h;by_cases hyk : y = k
  ·rw [if_pos hyk] at h; cases h; subst hyk; simp
  ·rw [if_neg hyk] at h; exact List.mem_cons_of_mem _ (ih h)
theorem zdv {α : Type} {l : List (Nat × α)} {y : Nat} (h : y ∈ l.map (·.1)) : ∃ x, getK l y = some x := by
 induction l with
 | nil => cases h
 | cons p l ih =>
  obtain ⟨k, d⟩ := p;rw [zaa];by_cases hyk : y = k
  ·exact ⟨d, by rw [if_pos hyk]⟩
  ·rw [if_neg hyk];simp only [List.map_cons, List.mem_cons] at h;exact ih (h.resolve_left hyk)
theorem zjN (O : List (Nat × Ob)) (y : Nat) : getK (O.map fun p => (p.1, some p.2) : Wr) y = (getK O y).map some := by
 induction O with
 | nil => rfl
 | cons p l ih =>
  obtain ⟨k, d⟩ := p;rw [List.map_cons, zaa, zaa, ih];split <;> rfl
theorem zdD {ρ : Nat -> Nat} {N M : Nat} (hρ : ∀ y, y < N -> ρ y = y) (hNM : N <= M) : ∀ {d : D}, d.under N = true -> Good ρ M d
 | .u x, _ => ⟨by simp [D.ren], by simp [D.under]⟩
 | .any, _ => ⟨by simp [D.ren], by simp [D.under]⟩
 | .ptr i off, h => by simp [D.under] at h; exact ⟨by simp [D.ren, hρ i h], by simp [D.under]; omega⟩
 | .vec i len, h => by simp [D.under] at h; exact ⟨by simp [D.ren, hρ i h], by simp [D.under]; omega⟩
 | .mp i, h => by simp [D.under] at h; exact ⟨by simp [D.ren, hρ i h], by simp [D.under]; omega⟩
 | .elt i sz idx off, h => by simp [D.under] at h; exact ⟨by simp [D.ren, hρ i h], by simp [D.under]; omega⟩
 | .fnc f caps, h => by
  have hc : ∀ c ∈ caps, Good ρ M c := fun c hc => zdD hρ hNM (by rw [D.under] at h; simp only [List.all_map, List.all_eq_true] at h; exact h c hc);refine ⟨by rw [D.ren]; congr 1; exact (List.map_congr_left fun c hc' => (hc c hc').1).trans (List.map_id _), ?_⟩;rw [D.under];simp only [List.all_map, List.all_eq_true];exact fun c hc' => (hc c hc').2
 | .bnd f caps, h => by
  have hc : ∀ c ∈ caps, Good ρ M c := fun c hc => zdD hρ hNM (by rw [D.under] at h; simp only [List.all_map, List.all_eq_true] at h; exact h c hc);refine ⟨by rw [D.ren]; congr 1; exact (List.map_congr_left fun c hc' => (hc c hc').1).trans (List.map_id _), ?_⟩;rw [D.under];simp only [List.all_map, List.all_eq_true];exact fun c hc' => (hc c hc').2
 | .agg caps, h => by
  have hc : ∀ c ∈ caps, Good ρ M c := fun c hc => zdD hρ hNM (by rw [D.under] at h; simp only [List.all_map, List.all_eq_true] at h; exact h c hc);refine ⟨by rw [D.ren]; congr 1; exact (List.map_congr_left fun c hc' => (hc c hc').1).trans (List.map_id _), ?_⟩;rw [D.under];simp only [List.all_map, List.all_eq_true];exact fun c hc' => (hc c hc').2
 | .tup caps, h => by
  have hc : ∀ c ∈ caps, Good ρ M c := fun c hc => zdD hρ hNM (by rw [D.under] at h; simp only [List.all_map, List.all_eq_true] at h; exact h c hc);refine ⟨by rw [D.ren]; congr 1; exact (List.map_congr_left fun c hc' => (hc c hc').1).trans (List.map_id _), ?_⟩;rw [D.under];simp only [List.all_map, List.all_eq_true];exact fun c hc' => (hc c hc').2
theorem zf7 {ρ : Nat -> Nat} {N M : Nat} (hρ : ∀ y, y < N -> ρ y = y) (hNM : N <= M) {ob : Ob} (h : ob.under N = true) : ob.all (Good ρ M) := by
 cases ob with
 | it => trivial
 | nw => trivial
 | sit => trivial
 | box cs => exact fun c hc => zdD hρ hNM ((List.all_eq_true.1 h) c hc)
 | vec e sz rows => exact fun r hr c hc => zdD hρ hNM ((List.all_eq_true.1 ((List.all_eq_true.1 h) r hr)) c hc)
 | map kk ag es => exact fun p hp c hc => zdD hρ hNM ((List.all_eq_true.1 ((List.all_eq_true.1 h) p hp)) c hc)
theorem zp2 {ops : List Oper} (hord : zij ops = true) : ∀ {i j : Nat} {y : Oper}, ops[j]? = some y -> zey ops ops.length i j = true -> i < j := by
 have key : ∀ (n i j : Nat) (y : Oper), ops[j]? = some y -> zey ops n i j = true -> i < j := by
  intro n
  induction n with
  | zero => intro i j y hj h; simp [zey] at h
  | succ n ih =>
   intro i j y hj h;simp only [zey, hj] at h;rw [List.any_eq_true] at h;obtain ⟨p, hp, h⟩ := h;have hlt := (zeu hord hj).1 p hp;simp only [Bool.or_eq_true, beq_iff_eq] at h;rcases h with rfl | h
   ·exact hlt
   ·have hpl : p < ops.length := by have := (List.getElem?_eq_some_iff.1 hj).1; omega
    have := ih i p _ (List.getElem?_eq_getElem hpl) h;omega
 exact fun {i j y} hj h => key _ i j y hj h
theorem EffP.guard {P Γ s k} {dst op type pos after guard} (h : EffP P Γ { dst, op, type, pos, after, guard := none } s k) : EffP P Γ { dst, op, type, pos, after, guard } s k := h
def VA (P : Program) (Γ : Ctx) (ops : List Oper) (s : St) (R : Exit -> St -> Prop) : Prop :=
 ∀ K a w, In Γ K w -> Sim K Γ.own s a w -> wpAny P .any ops.toArray (VPost Γ R) ops.toArray.size (Array.replicate ops.toArray.size false) a { w with drawn := w.drawn + 1 }
set_option maxHeartbeats 4000000 in
theorem zrP {P Γ} {R0 : Exit -> St -> Prop} {ops : List Oper} {T : Nat -> D} {W : Nat -> Wr} {cr : Nat -> Option Nat} {R : Nat -> List Nat} {kd : Nat -> Nat} {s : St} {M : Nat}
  (hord : zij ops = true) (hn0 : Γ.n0 <= s.next) (hM : s.next <= M)
  (hcr : ∀ i x, cr i = some x -> s.next <= x /\ x < M) (hcr1 : ∀ i j x, cr i = some x -> cr j = some x -> i = j)
  (hpair : ∀ i j, i < j -> j < ops.length -> zey ops ops.length i j = false -> (∀ y ∈ zdC (W i), y ∉ R j /\ y ∉ zdC (W j)) /\ ∀ y ∈ zdC (W j), y ∉ R i)
  (hkd : ∀ i, kd i ≠ 0 -> W i = [] /\ cr i = none) (hstop : ∀ p i, kd p = 1 -> i < ops.length -> W i ≠ [] -> zey ops ops.length i p = true \/ zey ops ops.length p i = true)
  (hval : ∀ i o, ops[i]? = some o -> zaq o.dst s /\ if kd i = 2 then ∃ p, kd p = 1 /\ p < ops.length /\ zey ops ops.length p i = true else if kd i = 1 then o.guard = none /\ ztr P Γ (stW ops T W s M fun j => decide (j < i)) o.op else
    zus P s.next ops.toArray (stW ops T W s M fun j => decide (j < i)) o (T i) (W i) (cr i) (R i))
  (hfin : (∀ i, i < ops.length -> kd i ≠ 1) -> ∃ s', (stW ops T W s M fun _ => true).Eqo s' /\ R0 .normal s') : VA P Γ ops s R0 := by
 intro K a w hin hs;have hin0 : In Γ K { w with drawn := w.drawn + 1 } := ⟨hin.le, hin.none0, hin.memNew, hin.fresh, hin.os, hin.tape, hin.output, hin.size, hin.block⟩;have hs0 : Sim K Γ.own s a { w with drawn := w.drawn + 1 } := ⟨⟨hs.sat.mem, fun i ob hi => by
   obtain ⟨h, h1, h2, h3⟩ := hs.sat.ob i ob hi;exact ⟨h, h1, h2, h3.keep (.refl _) fun b e => rfl⟩, hs.sat.apart⟩, hs.defers, hs.size, hs.env, hs.hdr⟩
 generalize ({ w with drawn := w.drawn + 1 } : World) = w0 at hin0 hs0;have key : ∀ (fuel : Nat) (listed : Array Bool) (K : Kr) (a : Act) (w : World), listed.size = ops.length -> (listed.toList.filter (! ·)).length <= fuel ->
   (∀ j y, ops[j]? = some y -> listed.getD j false = true -> ∀ p ∈ zdy y, listed.getD p false = true) -> In Γ K w -> Sim K Γ.own (stW ops T W s M fun j => listed.getD j false) a w ->
   (∀ j x, j < ops.length -> listed.getD j false = false -> cr j = some x -> K.hdr x = none) -> (∀ p, kd p = 1 -> p < ops.length -> listed.getD p false = false) ->
   wpAny P .any ops.toArray (VPost Γ R0) fuel listed a w := by
  have allDone : ∀ (listed : Array Bool) (K : Kr) (a : Act) (w : World), (∀ p, kd p = 1 -> p < ops.length -> listed.getD p false = false) -> (∀ j, j < ops.length -> listed.getD j false = true) -> In Γ K w -> Sim K Γ.own (stW ops T W s M fun j => listed.getD j false) a w ->
    ∃ K' s', In Γ K' w /\ Sim K' Γ.own s' a w /\ R0 .normal s' := fun listed K a w hsp hall hin hs => by
   obtain ⟨s', he, hfin⟩ := hfin fun i hi hk => by have h1 := hsp i hk hi; rw [hall i hi] at h1; cases h1
   refine ⟨K, _, hin, Sim.eqo (hs.eqo ?_) he, hfin⟩;refine ⟨rfl, fun x => ?_, rfl, fun x => ?_⟩
   ·simp only [stW, zao];rw [zcs W _ (fun _ => true) x ops.length fun j hj _ => hall j hj]
   ·exact zc7 T _ _ x ops 0 s.env s.env rfl fun j o hj _ => by
     have hl := (List.getElem?_eq_some_iff.1 hj).1;simp only [Nat.zero_add];exact hall j hl
  have least : ∀ (listed : Array Bool), listed.size = ops.length -> ∀ i, i < ops.length -> listed.getD i false = false -> ∃ i0, i0 ∈ Region.ready .any ops.toArray listed := fun listed hsz i hi hu => by
   induction i using Nat.strongRecOn with
   | _ i ih =>
    have ho : ops[i]? = some ops[i] := List.getElem?_eq_getElem hi;by_cases hp : ∀ p ∈ zdy ops[i], listed.getD p false = true
    ·refine ⟨i, mem_ready.2 ⟨?_, ops[i], by simp, fun e he hb => hp e.on ?_⟩⟩
     ·have hi' : i < listed.size := by omega
      simp [hi'] at hu ⊢;exact hu
     ·simp only [zdy, List.mem_map, List.mem_filter];exact ⟨e, ⟨by simpa using he, hb⟩, rfl⟩
    ·simp only [Classical.not_forall] at hp;obtain ⟨p, hpm, hpu⟩ := hp;have hlt := (zeu hord ho).1 p hpm;exact ih p hlt (by omega) (by simpa using hpu)
  intro fuel
  induction fuel with
  | zero =>
   intro listed K a w hsz hcnt hcl hin hs _ hsp;have hall : ∀ j, j < ops.length -> listed.getD j false = true := fun j hj => by
    have hj' : j < listed.size := by omega
    have h0 : (listed.toList.filter (! ·)) = [] := List.eq_nil_of_length_eq_zero (by omega);have := (List.filter_eq_nil_iff.1 h0) listed[j] (by simp);simp only [Bool.not_eq_true', Bool.not_eq_false] at this;simp [hj', this]
   refine ⟨?_, .inl (allDone listed K a w hsp hall hin hs)⟩;refine List.eq_nil_iff_forall_not_mem.2 fun i hi => ?_;obtain ⟨h1, o, ho, _⟩ := mem_ready.1 hi;have hl : i < ops.length := by
    have := (Array.getElem?_eq_some_iff.1 ho).1;simpa using this
   have := hall i hl;have hi' : i < listed.size := by omega
   simp [hi'] at h1 this;rw [h1] at this;cases this
  | succ fuel ih =>
   intro listed K a w hsz hcnt hcl hin hs hfr hsp;refine ⟨fun hnil => .inl (allDone listed K a w hsp (fun j hj => ?_) hin hs), fun i hi => ?_⟩
   ·cases hu : listed.getD j false with
    | true => rfl
    | false =>
     obtain ⟨i0, h0⟩ := least listed hsz j hj hu;rw [hnil] at h0;cases h0
   ·obtain ⟨hun, o, ho, hall⟩ := mem_ready.1 hi;have ho' : ops[i]? = some o := by simpa using ho
    have hil := (List.getElem?_eq_some_iff.1 ho').1;have hil' : i < listed.size := by omega
    have hunf : listed.getD i false = false := by simp [hil'] at hun ⊢; exact hun
    have hpred : ∀ p ∈ zdy o, listed.getD p false = true := fun p hp => by
     simp only [zdy, List.mem_map, List.mem_filter] at hp;obtain ⟨e, ⟨he, hb⟩, rfl⟩ := hp;exact hall e (by simpa using he) hb
    obtain ⟨hpo, hv⟩ := hval i o ho';have bef1 : ∀ j, zey ops ops.length j i = true -> listed.getD j false = true := fun j hb => zeQ hcl _ j i o ho' hpred hb;have bef2 : ∀ j x, ops[j]? = some x -> zey ops ops.length i j = true -> listed.getD j false = false := fun j x hj hb => by
     cases hu : listed.getD j false with
     | false => rfl
     | true =>
      have := zeQ hcl _ i j x hj (hcl j x hj hu) hb;rw [hunf] at this;cases this
    have before : ∀ j x, ops[j]? = some x -> j < i -> zfd ops.toArray x o = true \/ zfd ops.toArray o x = true -> listed.getD j false = true := fun j x hj hlt hmm =>
     bef1 j ((zeu hord ho').2.2 j x hlt hj hmm)
    have behind : ∀ j x, ops[j]? = some x -> i < j -> zfd ops.toArray x o = true \/ zfd ops.toArray o x = true -> listed.getD j false = false := fun j x hj hlt hmm =>
     bef2 j x hj ((zeu hord hj).2.2 i o hlt ho' hmm.symm)
    have agree : ∀ t, t ∈ o.looksAt ops.toArray -> getK (zfe T (fun j => listed.getD j false) ops 0 s.env) t = getK (zfe T (fun j => decide (j < i)) ops 0 s.env) t := fun t ht => by
     refine zc7 T _ _ t ops 0 s.env s.env rfl fun j x hj hx => ?_;simp only [Nat.zero_add];have hmm : zfd ops.toArray x o = true := by simp [zfd, hx, ht]
     rcases Nat.lt_trichotomy j i with h | h | h
     ·rw [before j x hj h (.inl hmm)]; simp [h]
     ·subst h; rw [hunf]; simp
     ·rw [behind j x hj h (.inl hmm)]; simp; omega
    have hopd : ∀ x ∈ o.op.operands, opd (stW ops T W s M fun j => decide (j < i)) x = opd (stW ops T W s M fun j => listed.getD j false) x := fun x hx => by
     cases x with
     | tmp t =>
      simp only [opd, St.at, stW];rw [agree t (List.mem_append_left _ (List.mem_filterMap.2 ⟨.tmp t, by simpa using hx, rfl⟩))]
     | _ => rfl
    have hloc : ∀ y ∈ R i, getK (stW ops T W s M fun j => decide (j < i)).obs y = getK (stW ops T W s M fun j => listed.getD j false).obs y := fun y hy => by
     simp only [stW, zao];rw [zcs W (fun j => decide (j < i)) (fun j => listed.getD j false) y ops.length fun j hj hk => ?_];rcases Nat.lt_trichotomy j i with h | h | h
     ·have hb : zey ops ops.length j i = true := by
       cases hb : zey ops ops.length j i with
       | true => rfl
       | false => exact absurd hy (((hpair j i h hil hb).1 y hk).1)
      rw [bef1 j hb];simp [h]
     ·subst h; rw [hunf]; simp
     ·have hb : zey ops ops.length i j = true := by
       cases hb : zey ops ops.length i j with
       | true => rfl
       | false => exact absurd hy ((hpair i j h hj hb).2 y hk)
      rw [bef2 j _ (List.getElem?_eq_getElem hj) hb];simp; omega
    have hlast : ∀ y ∈ zdC (W i), ∀ j, j < ops.length -> i < j -> y ∈ zdC (W j) -> listed.getD j false = false := fun y hy j hj hlt hk => by
     have hb : zey ops ops.length i j = true := by
      cases hb : zey ops ops.length i j with
      | true => rfl
      | false => exact absurd hk ((hpair i j hlt hj hb).1 y hy).2
     exact bef2 j _ (List.getElem?_eq_getElem hj) hb
    have hS : (fun j => (listed.setIfInBounds i true).getD j false) = fun j => listed.getD j false || j == i := funext fun j => by
     by_cases hji : j = i
     ·subst hji; simp [hil']
     ·simp [Array.getElem?_setIfInBounds_ne (Ne.symm hji), hji]
    have henv : ∀ (x : Nat), o.dst = some x -> getK (zfe T (fun j => listed.getD j false || j == i) ops 0 s.env) x = some (T i) := fun x hdx =>
     zjU T _ i x ops 0 s.env i o ho' (by omega) hdx fun j o' hj hlt hd' => by
      rw [Nat.zero_add];exact behind j o' hj hlt (.inl (by simp [zfd, hd', hdx]))
    have henv' : ∀ (x : Nat), o.dst ≠ some x -> getK (zfe T (fun j => listed.getD j false || j == i) ops 0 s.env) x = getK (zfe T (fun j => listed.getD j false) ops 0 s.env) x := fun x hdx =>
     zc7 T _ (fun j => listed.getD j false) x ops 0 s.env s.env rfl fun j o' hj hd' => by
      simp only [Nat.zero_add];have : j ≠ i := fun e => by subst e; rw [ho'] at hj; cases hj; exact hdx hd'
      simp [this]
    by_cases hk2 : kd i = 2
    ·rw [if_pos hk2] at hv;obtain ⟨p, hp1, hp2, hp3⟩ := hv;have := bef1 p hp3;rw [hsp p hp1 hp2] at this;cases this
    rw [if_neg hk2] at hv;by_cases hk1 : kd i = 1
    ·rw [if_pos hk1] at hv;obtain ⟨hg, hst⟩ := hv;unfold wpOp;rw [ho];simp only [Region.wanted, hg, if_true];refine .inl (hst (stW ops T W s M fun j => listed.getD j false) rfl (fun y => ?_) (fun x hx => (hopd x hx).symm) (Nat.le_refl _) o rfl hg hpo K a w hin hs _ _ (fun _ _ _ _ _ _ h => h.elim) fun ch K' a' w' s' h1 h2 h3 => .inl ⟨K', s', h1, h2, h3⟩);simp only [stW, zao];rw [zcs W (fun j => listed.getD j false) (fun j => decide (j < i)) y ops.length fun j hj hk => ?_];have hne : W j ≠ [] := fun e => by rw [e] at hk; cases hk
     rcases hstop i j hk1 hj hne with hb | hb
     ·have h1 := bef1 j hb;have hji : j < i := by
       rcases Nat.lt_trichotomy j i with h | h | h
       ·exact h
       ·subst h; rw [hunf] at h1; cases h1
       ·have := zp2 hord ho' hb; omega
      rw [h1]; simp [hji]
     ·have h1 := bef2 j _ (List.getElem?_eq_getElem hj) hb;have hji : ¬ j < i := by have := zp2 hord (List.getElem?_eq_getElem hj) hb; omega
      rw [h1]; simp [hji]
    rw [if_neg hk1] at hv;have go : ∀ K' a' w', In Γ K' w' -> Sim K' Γ.own (stW ops T W s M fun j => listed.getD j false || j == i) a' w' ->
      (∀ j x, j < ops.length -> (listed.getD j false || j == i) = false -> cr j = some x -> K'.hdr x = none) ->
      wpAny P .any ops.toArray (VPost Γ R0) fuel (listed.setIfInBounds i true) a' w' := fun K' a' w' h1 h2 h3 => by
     have hS' : ∀ j, (listed.setIfInBounds i true).getD j false = (listed.getD j false || j == i) := fun j => congrFun hS j;refine ih (listed.setIfInBounds i true) K' a' w' (by simp [hsz]) ?_ (fun j y hj hSj p hp => ?_) h1 (by rw [hS]; exact h2) (fun j x hj hu => h3 j x hj (by rw [<- hS']; exact hu)) (fun p hp1 hp2 => by
      rw [hS', hsp p hp1 hp2];have : p ≠ i := fun e => hk1 (e ▸ hp1);simp [this])
     ·have cnt : ∀ (l : List Bool) (n : Nat), l[n]? = some false -> ((l.set n true).filter (! ·)).length + 1 = (l.filter (! ·)).length := by
       intro l
       induction l with
       | nil => intro n h; simp at h
       | cons b l ih =>
               intro n h;cases n with
               | zero => simp at h; subst h; simp
               | succ n =>
                have := ih n (by simpa using h);cases b <;> simp at this ⊢ <;> omega
      have := cnt listed.toList i (by
       rw [Array.getElem?_toList, Array.getElem?_eq_getElem hil'];simp [hil'] at hunf;rw [hunf])
      rw [Array.toList_setIfInBounds];omega
     ·rw [hS'] at hSj ⊢;simp only [Bool.or_eq_true, beq_iff_eq] at hSj ⊢;rcases hSj with hSj | rfl
      ·exact .inl (hcl j y hj hSj p hp)
      ·rw [ho'] at hj;cases hj;exact .inl (hpred p hp)
    have next : W i = [] -> ∀ K' v w', In Γ K' w' -> K.le K' -> K'.hdr = K.hdr -> Sat K' Γ.own (stW ops T W s M fun j => listed.getD j false).obs w' -> Rep K' (T i) v ->
      wpAny P .any ops.toArray (VPost Γ R0) fuel (listed.setIfInBounds i true) (a.put o.dst v) w' := fun hW K' v w' h1 h2 h3 h4 h5 => by
     refine go K' _ w' h1 ?_ fun j x hj hu hc => by
      rw [h3];simp only [Bool.or_eq_false_iff] at hu;exact hfr j x hj hu.1 hc
     have hdef : (a.put o.dst v).defers = Γ.own.dfr := by cases o.dst <;> exact hs.defers
     have hsize : (a.put o.dst v).tmps.size = s.n := by
      have hsz2 : a.tmps.size = s.n := hs.size;cases o.dst <;> simp [Act.put, hsz2]
     refine ⟨h4.eqo fun y => ?_, hdef, hsize, fun x d hx => ?_, fun j hj => by rw [h3]; exact hs.hdr j hj⟩
     ·simp only [stW, zao];rw [zcs W (fun j => listed.getD j false) (fun j => listed.getD j false || j == i) y ops.length fun j hj hk => ?_];by_cases hji : j = i
      ·subst hji; rw [hW] at hk; cases hk
      ·simp [hji]
     ·simp only [stW] at hx;by_cases hdx : o.dst = some x
      ·rw [henv x hdx] at hx;cases hx;have hlt : x < s.n := by rw [hdx] at hpo; exact hpo
       refine ⟨hlt, ?_⟩;have hsz' : a.tmps.size = s.n := hs.size;rw [hdx];simpa [Act.put, hsz', hlt] using h5
      ·rw [henv' x hdx] at hx;obtain ⟨g1, g2⟩ := hs.env x d hx;refine ⟨g1, ?_⟩
       have e : (a.put o.dst v).tmps.getD x undef = a.tmps.getD x undef := by
               cases hd : o.dst with
               | none => rfl
               | some y =>
                have hne : y ≠ x := fun e => hdx (by rw [hd, e]);simp [Act.put, Array.getElem?_setIfInBounds_ne hne]
       rw [e];exact g2.mono h2
    unfold wpOp;rw [ho];simp only;have two : (Region.wanted o (yielded ops.toArray a.tmps) = true /\ ztu P s.next (stW ops T W s M fun j => decide (j < i)) o.op o.dst (T i) (W i) (cr i) (R i)) \/ (Region.wanted o (yielded ops.toArray a.tmps) = false /\ T i = .un /\ W i = []) := by
     unfold zus at hv;split at hv
     ·rename_i hg;exact .inl ⟨by simp [Region.wanted, hg], hv⟩
     ·rename_i j want hg;obtain ⟨t, ht, hv⟩ := hv;have lift : ∀ dd, getK (stW ops T W s M fun j => decide (j < i)).env t = some dd -> getK (stW ops T W s M fun j => listed.getD j false).env t = some dd := fun dd hb => by
       simp only [stW] at hb ⊢
       rw [agree t (by
               refine List.mem_append_right _ ?_;unfold zaH at ht;simp only [hg];rw [ht];simp)]
       exact hb
      rcases hv with ⟨b, hb, hv⟩ | ⟨hb, hv⟩
      ·have hb' := lift _ hb;obtain ⟨hlt, hr⟩ := hs.getK hb';have hbv := zdt hr
       have hyd : yielded ops.toArray a.tmps j = some b := by
               unfold yielded;unfold zaH at ht;rw [ht];simp only [Option.bind_some];have : a.tmps[t]? = some (.bool b) := by
                rw [Array.getElem?_eq_getElem hlt];simp [hlt] at hbv;rw [hbv]
               rw [this]
       by_cases hbw : b = want
       ·rw [if_pos hbw] at hv;exact .inl ⟨by simp [Region.wanted, hg, hyd, hbw], hv⟩
       ·rw [if_neg hbw] at hv;exact .inr ⟨by simp [Region.wanted, hg, hyd, hbw], hv.1, hv.2.1⟩
      ·have hb' := lift _ hb;obtain ⟨hlt, hr⟩ := hs.getK hb';have hbv := zdU hr
       have hyd : yielded ops.toArray a.tmps j = none := by
               unfold yielded;unfold zaH at ht;rw [ht];simp only [Option.bind_some];have : a.tmps[t]? = some undef := by
                rw [Array.getElem?_eq_getElem hlt];simp [hlt] at hbv;rw [hbv]
               rw [this]
               try rfl
       exact .inr ⟨by simp [Region.wanted, hg, hyd], hv.1, hv.2.1⟩
    rcases two with ⟨hw, hv⟩ | ⟨hw, hv⟩
    ·rw [if_pos hw]
     let un : Nat -> Prop := fun y => ∃ j, j < ops.length /\ (listed.getD j false || j == i) = false /\ cr j = some y
     let ρ : Nat -> Nat := fun y => open Classical in if cr i = some y then M else if un y then M + 1 + y else y
     have hknown : ∀ y h, K.hdr y = some h -> ρ y = y /\ y < M := fun y h hy => by
      have h1 : cr i ≠ some y := fun e => by rw [hfr i y hil hunf e] at hy; cases hy
      have h2 : ¬ un y := fun ⟨j, hj, hu, hc⟩ => by
       simp only [Bool.or_eq_false_iff] at hu;rw [hfr j y hj hu.1 hc] at hy;cases hy
      refine ⟨by simp only [ρ]; rw [if_neg h1, if_neg h2], ?_⟩;rcases Nat.lt_or_ge y M with h | h
      ·exact h
      ·rw [hs.hdr y h] at hy; cases hy
     have hobs : ∀ y ob, getK (stW ops T W s M fun j => listed.getD j false).obs y = some ob -> (ρ y = y /\ y < M) /\ ob.all (Good ρ M) := fun y ob hy => by
      have hok := hs.sat.ob y ob hy;obtain ⟨h, h1, _⟩ := hok;exact ⟨hknown y h h1, (hs.sat.ob y ob hy).good hknown⟩
     have hρs0 : ∀ y, y < s.next -> ρ y = y := fun y hy => by
      have c1 : cr i ≠ some y := fun e => by have := (hcr i y e).1; omega
      have c2 : ¬ un y := fun ⟨j, _, _, hc⟩ => by have := (hcr j y hc).1; omega
      simp only [ρ];rw [if_neg c1, if_neg c2]
     have mk : ∀ e' : ERes, (∀ p ∈ e'.U, ∀ ob, p.2 = some ob -> ob.all (Good ρ M) /\ ∃ o, getK (stW ops T W s M fun j => listed.getD j false).obs p.1 = some o) -> (∀ ob, e'.nw = some ob -> ob.all (Good ρ M)) ->
       (match e'.nw with | none => o.dst = none /\ W i = e'.U /\ cr i = none | some ob => ∃ x, cr i = some x /\ W i = (x, some ob) :: e'.U /\ T i = mkD e'.how x) ->
       ∀ K' a' w', In Γ K' w' -> Sim K' Γ.own ((stW ops T W s M fun j => listed.getD j false).effS e' o.dst) a' w' -> wpAny P .any ops.toArray (VPost Γ R0) fuel (listed.setIfInBounds i true) a' w' := by
      intro e' hgU hgN hcase K' a' w' h1 h2;have hle : St.Le Γ.n0 ρ ((stW ops T W s M fun j => listed.getD j false).effS e' o.dst) (stW ops T W s M fun j => listed.getD j false || j == i) := by
       have hWi : ∀ y, y ∈ zdC (W i) → getK (zeG W (fun j => listed.getD j false || j == i) ops.length) y = getK (W i) y := fun y hy =>
               zg9 W _ i y hy ops.length hil fun j hj hlt hk => hlast y hy j hj hlt hk
       have hWn : ∀ y, y ∉ zdC (W i) → getK (zeG W (fun j => listed.getD j false || j == i) ops.length) y = getK (zeG W (fun j => listed.getD j false) ops.length) y := fun y hy =>
               zcs W _ _ y ops.length fun j hj hk => by
                by_cases hji : j = i
                ·subst hji; exact absurd hk hy
                ·simp [hji]
       have hinj : ∀ y1 y2, y1 < M → y2 < M → ρ y1 = ρ y2 → y1 = y2 := fun y1 y2 g1 g2 hr => by
               simp only [ρ] at hr;by_cases c1 : cr i = some y1 <;> by_cases c2 : cr i = some y2
               ·rw [c1] at c2; cases c2; rfl
               ·rw [if_pos c1, if_neg c2] at hr;split at hr <;> omega
               ·rw [if_neg c1, if_pos c2] at hr;split at hr <;> omega
               ·rw [if_neg c1, if_neg c2] at hr;split at hr <;> split at hr <;> omega
       have hobs2 : ∀ y ob', getK (stW ops T W s M fun j => listed.getD j false || j == i).obs y = some ob' → y < M ∧
                ∃ ob, getK ((stW ops T W s M fun j => listed.getD j false).effS e' o.dst).obs (ρ y) = some ob /\ Ob.le ρ ob ob' /\ ob'.under M = true := fun y ob' hy => by
               simp only [stW, zao] at hy;cases hn : e'.nw with
               | none =>
                rw [hn] at hcase;obtain ⟨hd0, hWU, hcn⟩ := hcase;have hob : ∀ z, getK ((stW ops T W s M fun j => listed.getD j false).effS e' o.dst).obs z = match getK (W i) z with | some x => x | none => getK (stW ops T W s M fun j => listed.getD j false).obs z := fun z => by
                 simp only [St.effS, hn, zao, hWU]
                 try rfl
                by_cases hk : y ∈ zdC (W i)
                ·rw [hWi y hk] at hy;obtain ⟨x, hx⟩ := zef (W i) y hk;rw [hx] at hy;simp only at hy;subst hy;have hmem : (y, some ob') ∈ e'.U := by
                  rw [<- hWU];have : ∀ (l : Wr), getK l y = some (some ob') -> (y, some ob') ∈ l := by
                   intro l
                   induction l with
                   | nil => intro h; cases h
                   | cons p l ih =>
                    obtain ⟨k', d'⟩ := p;intro h;rw [zaa] at h;by_cases hyk : y = k'
                    ·rw [if_pos hyk] at h; cases h; subst hyk; simp
                    ·rw [if_neg hyk] at h; exact List.mem_cons_of_mem _ (ih h)
                  exact this _ hx
                 obtain ⟨hga, o0, ho0⟩ := hgU _ hmem ob' rfl;obtain ⟨⟨hr, hlt⟩, _⟩ := hobs y o0 ho0;refine ⟨hlt, ob', ?_, (Ob.zdc hga).1, (Ob.zdc hga).2⟩;rw [hr, hob, hx]
                ·rw [hWn y hk] at hy;obtain ⟨⟨hr, hlt⟩, hga⟩ := hobs y ob' (by simp only [stW, zao]; exact hy);refine ⟨hlt, ob', ?_, (Ob.zdc hga).1, (Ob.zdc hga).2⟩;rw [hr, hob, zcw (W i) y hk];simp only [stW, zao];exact hy
               | some nb =>
                rw [hn] at hcase;obtain ⟨x0, hcx, hWU, hTi⟩ := hcase;have hx0 := hcr i x0 hcx;have hob : ∀ z, z ≠ M -> getK ((stW ops T W s M fun j => listed.getD j false).effS e' o.dst).obs z = match getK e'.U z with | some x => x | none => getK (stW ops T W s M fun j => listed.getD j false).obs z := fun z hz => by
                 have : ∀ (q : St) (d : D), (q.put o.dst d).obs = q.obs := fun q d => by cases o.dst <;> rfl
                 simp only [St.effS, hn, this, zaa];rw [if_neg (by simpa [stW] using hz), zao]
                 try rfl
                have hobM : getK ((stW ops T W s M fun j => listed.getD j false).effS e' o.dst).obs M = some nb := by
                 have : ∀ (q : St) (d : D), (q.put o.dst d).obs = q.obs := fun q d => by cases o.dst <;> rfl
                 simp only [St.effS, hn, this, zaa];rw [if_pos (by simp [stW])]
                by_cases hyx : y = x0
                ·subst hyx;have hk : y ∈ zdC (W i) := by rw [hWU]; simp [zdC]
                 rw [hWi y hk, hWU, zaa, if_pos rfl] at hy;simp only at hy;cases hy;have hga := hgN ob' hn;refine ⟨hx0.2, ob', ?_, (Ob.zdc hga).1, (Ob.zdc hga).2⟩;simp only [ρ];rw [if_pos hcx];exact hobM
                ·by_cases hk : y ∈ zdC (W i)
                 ·rw [hWi y hk, hWU, zaa, if_neg hyx] at hy;have hk' : y ∈ e'.U.map (·.1) := by
                   rw [hWU] at hk;simp only [zdC, List.map_cons, List.mem_cons] at hk;exact hk.resolve_left hyx
                  obtain ⟨x, hx⟩ := zef e'.U y hk';rw [hx] at hy;simp only at hy;subst hy;have hmem : (y, some ob') ∈ e'.U := by
                   have : ∀ (l : Wr), getK l y = some (some ob') -> (y, some ob') ∈ l := by
                    intro l
                    induction l with
                    | nil => intro h; cases h
                    | cons p l ih =>
                     obtain ⟨k', d'⟩ := p;intro h;rw [zaa] at h;by_cases hyk : y = k'
                     ·rw [if_pos hyk] at h; cases h; subst hyk; simp
                     ·rw [if_neg hyk] at h; exact List.mem_cons_of_mem _ (ih h)
                   exact this _ hx
                  obtain ⟨hga, o0, ho0⟩ := hgU _ hmem ob' rfl;obtain ⟨⟨hr, hlt⟩, _⟩ := hobs y o0 ho0;refine ⟨hlt, ob', ?_, (Ob.zdc hga).1, (Ob.zdc hga).2⟩;rw [hr, hob y (by omega), hx]
                 ·rw [hWn y hk] at hy;obtain ⟨⟨hr, hlt⟩, hga⟩ := hobs y ob' (by simp only [stW, zao]; exact hy);refine ⟨hlt, ob', ?_, (Ob.zdc hga).1, (Ob.zdc hga).2⟩;have hk' : y ∉ e'.U.map (·.1) := by
                   rw [hWU] at hk;simp only [zdC, List.map_cons, List.mem_cons, not_or] at hk;exact hk.2
                  rw [hr, hob y (by omega), zcw e'.U y hk'];simp only [stW, zao];exact hy
       have henv2 : ∀ x d', getK (stW ops T W s M fun j => listed.getD j false || j == i).env x = some d' →
                (D.le ρ (((stW ops T W s M fun j => listed.getD j false).effS e' o.dst).at x) d' /\ d'.under M = true) /\ x < s.n := fun x d' hx => by
               simp only [stW] at hx;by_cases hdx : o.dst = some x
               ·rw [henv x hdx] at hx;cases hx;have hlt : x < s.n := by rw [hdx] at hpo; exact hpo
                cases hn : e'.nw with
                | none =>
                 rw [hn] at hcase;rw [hcase.1] at hdx;cases hdx
                | some nb =>
                 rw [hn] at hcase;obtain ⟨x0, hcx, hWU, hTi⟩ := hcase;have hx0 := hcr i x0 hcx;have hρ : ρ x0 = M := by simp only [ρ]; rw [if_pos hcx]
                 refine ⟨⟨.inr (.inl ?_), ?_⟩, hlt⟩
                 ·rw [hTi];simp only [St.effS, hn, hdx, St.put, St.at, zaa, if_true, Option.getD_some];cases e'.how <;> simp [mkD, D.ren, hρ, stW]
                 ·rw [hTi];cases e'.how <;> simp [mkD, D.under, hx0.2]
               ·rw [henv' x hdx] at hx;obtain ⟨g1, g2⟩ := hs.env x d' hx;have hgd := g2.good hknown;have hat : ((stW ops T W s M fun j => listed.getD j false).effS e' o.dst).at x = d' := by
                 have : ∀ (q : St) (d : D), getK (q.put o.dst d).env x = getK q.env x := fun q d => by
                  cases hd : o.dst with
                  | none => rfl
                  | some y =>
                   have hne : ¬ x = y := fun e => hdx (by rw [hd, e]);simp only [St.put, zaa, if_neg hne]
                 simp only [St.at, St.effS];cases hn : e'.nw with
                 | none => simp only [stW, hx]; rfl
                 | some nb => simp only [this, stW, hx]; rfl
                rw [hat];exact ⟨⟨.inr (.inl hgd.1.symm), hgd.2⟩, g1⟩
       refine ⟨?_, fun x d' hx => (henv2 x d' hx).1, fun x d' hx => ?_, hobs2, fun y1 y2 o1 o2 g1 g2 hr => hinj y1 y2 (hobs2 y1 o1 g1).1 (hobs2 y2 o2 g2).1 hr, fun j hj => ?_⟩
       ·have : ∀ (q : St) (d : D), (q.put o.dst d).n = q.n := fun q d => by cases o.dst <;> rfl
        simp only [St.effS];cases e'.nw <;> simp only [this] <;> rfl
       ·have : ∀ (q : St) (d : D), (q.put o.dst d).n = q.n := fun q d => by cases o.dst <;> rfl
        have e2 : ((stW ops T W s M fun j => listed.getD j false).effS e' o.dst).n = s.n := by
         simp only [St.effS];cases e'.nw <;> simp only [this] <;> rfl
        rw [e2];exact (henv2 x d' hx).2
       ·have c1 : cr i ≠ some j := fun e => by have := (hcr i j e).1; omega
        have c2 : ¬ un j := fun ⟨q, _, _, hc⟩ => by have := (hcr q j hc).1; omega
        refine ⟨by simp only [ρ]; rw [if_neg c1, if_neg c2], ?_⟩;show j < M;omega
      obtain ⟨g1, g2⟩ := Sim.weak h1 h2 hle;refine go _ a' w' g1 g2 fun j x hj hu hc => ?_;simp only [Kr.ren];split
      ·have c1 : cr i ≠ some x := fun e => by
               have := hcr1 i j x e hc;subst this;simp at hu
       have c2 : un x := ⟨j, hj, hu, hc⟩;simp only [ρ];rw [if_neg c1, if_pos c2];refine h2.hdr _ ?_;have : ∀ (q : St) (d : D), (q.put o.dst d).next = q.next := fun q d => by cases o.dst <;> rfl
       simp only [St.effS];cases e'.nw <;> simp only [this, stW] <;> omega
      ·rfl
     rcases hv with (⟨hv, hW, hcn, hR⟩ | ⟨e, he, hR, hcase⟩) | ⟨⟨fop, args, f, caps, O, O', L, hco, hcf, hcb, hR, hkW, hWg, hsm, hO, hnd, ⟨hdu, hOu⟩, hret⟩, hcn⟩ | ⟨fop, args, f, caps, O, e, nb, x0, hco, hcf, hcb, hR, ⟨heU, heN, hnu⟩, hcx, hO, hret⟩
     ·replace hv := zha (s := stW ops T W s M fun j => decide (j < i)) (s' := stW ops T W s M fun j => listed.getD j false) (by rw [<- hR]; exact hloc) hopd hv
      exact .inl (zmC hv hin hs fun K' v w' h1 h2 h3 h4 h5 => next hW K' v w' h1 h2 h3 h4 h5)
     ·
      replace he := zew (s := stW ops T W s M fun j => decide (j < i)) (s' := stW ops T W s M fun j => listed.getD j false) (by rw [<- hR]; exact hloc) hopd he
      have hgood := zm6 (g := Good ρ M) (fun _ => ⟨by simp [D.ren], by simp [D.under]⟩) (fun cs h => h.agg) he (fun x hx => (zaJ hs x).good hknown) (fun y ob hy => (hobs y ob hy).2);obtain ⟨e', he', ⟨rfl, hgU, hgN⟩⟩ := Lin.effD.2 _ hgood
      have he2 : effD P (stW ops T W s M fun j => listed.getD j false) o.op fun e => zaq o.dst (stW ops T W s M fun j => listed.getD j false) ∧ (e.nw = none → o.dst = none) ∧
               ((stW ops T W s M fun j => listed.getD j false).effS e o.dst) = (stW ops T W s M fun j => listed.getD j false).effS e' o.dst :=
       Lin.effD.1 _ _ (fun e hee => by
               subst hee;refine ⟨hpo, fun hn => ?_, rfl⟩;rw [hn] at hcase;exact hcase.1) he
      refine .inl (zee (k := fun s' => s' = (stW ops T W s M fun j => listed.getD j false).effS e' o.dst) (zi9 he2) K a w hin hs _ _ (fun K' a' w' s' h1 h2 h3 => ?_) fun ch K' a' w' s' h1 h2 h3 => .inl ⟨K', s', h1, h2, h3⟩);have h3' : s' = _ := h3;subst h3';exact mk e' hgU hgN hcase K' a' w' h1 h2
     ·
      let un : Nat -> Prop := fun y => ∃ j, j < ops.length /\ (listed.getD j false || j == i) = false /\ cr j = some y
      let ρ : Nat -> Nat := fun y => open Classical in if un y then M + 1 + y else y
      have hρs : ∀ y, y < s.next -> ρ y = y := fun y hy => by
       have : ¬ un y := fun ⟨j, _, _, hc⟩ => by have := (hcr j y hc).1; omega
       simp only [ρ]; rw [if_neg this]
      have hknown : ∀ y h, K.hdr y = some h -> ρ y = y /\ y < M := fun y h hy => by
       have h2 : ¬ un y := fun ⟨j, hj, hu, hc⟩ => by
               simp only [Bool.or_eq_false_iff] at hu;rw [hfr j y hj hu.1 hc] at hy;cases hy
       refine ⟨by simp only [ρ]; rw [if_neg h2], ?_⟩;rcases Nat.lt_or_ge y M with h | h
       ·exact h
       ·rw [hs.hdr y h] at hy; cases hy
      have hobs : ∀ y ob, getK (stW ops T W s M fun j => listed.getD j false).obs y = some ob -> (ρ y = y /\ y < M) /\ ob.all (Good ρ M) := fun y ob hy => by
       have hok := hs.sat.ob y ob hy;obtain ⟨h, h1, _⟩ := hok;exact ⟨hknown y h h1, (hs.sat.ob y ob hy).good hknown⟩
      have hOact : ∀ p ∈ O, getK (stW ops T W s M fun j => listed.getD j false).obs p.1 = some p.2 := fun p hp => by
       rw [<- hloc p.1 (by rw [hR]; exact List.mem_map.2 ⟨p, hp, rfl⟩)];exact hO p hp
      have hOget : ∀ y ob, getK O y = some ob -> getK (stW ops T W s M fun j => listed.getD j false).obs y = some ob := fun y ob h => hOact _ (zft h)
      let F := (stW ops T W s M fun j => listed.getD j false).obs.filter fun p => !(O.map (·.1)).contains p.1
      have hFg : ∀ y, getK F y = if (O.map (·.1)).contains y = true then none else getK (stW ops T W s M fun j => listed.getD j false).obs y := fun y => zdf _ _ y;have hOn : ∀ y, ¬ (O.map (·.1)).contains y = true -> getK O y = none := fun y h => zcw O y (by simpa using h);have heq : ∀ y, getK (stW ops T W s M fun j => listed.getD j false).obs y = getK (F ++ O) y := fun y => by
       rw [zab, hFg];by_cases hy : (O.map (·.1)).contains y = true
       ·rw [if_pos hy];obtain ⟨x, hx⟩ := zdv (l := O) (y := y) (by simpa using hy);rw [hx, hOget y x hx]
       ·rw [if_neg hy, hOn y hy];cases getK (stW ops T W s M fun j => listed.getD j false).obs y <;> rfl
      have hF : ∀ y ob, getK F y = some ob -> getK O y = none := fun y ob h => by
       rw [hFg] at h;by_cases hy : (O.map (·.1)).contains y = true
       ·rw [if_pos hy] at h; cases h
       ·exact hOn y hy
      have hopdS : ∀ x, x ∈ fop :: args -> opd (stW ops T W s M fun j => listed.getD j false) x = opd (stW ops T W s M fun j => decide (j < i)) x := fun x hx => (hopd x (by
       rcases o with ⟨odst, oop, ot, opos, oaf, og⟩
       unfold zbf at hco;split at hco
       ·rename_i c hop;simp only at hop;subst hop;split at hco
        ·cases hco;rename_i f' hcal;simp only [Op.operands, Call.operands, hcal];simp only [List.mem_cons] at hx;simp;rcases hx with rfl | hx
         ·exact .inl rfl
         ·exact .inr (by simpa using hx)
        ·cases hco
       ·cases hco)).symm
      have hcall : CallP P Γ fop args o.dst (stW ops T W s M fun j => listed.getD j false) fun s' => ∃ o1, (∀ y, getK o1 y = getK O' y) /\ s' = (({ (stW ops T W s M fun j => listed.getD j false) with obs := F ++ o1, next := M } : St).put o.dst (T i)) :=
       CallP.xF F O (hret M (Nat.le_refl _)) heq hF (by rw [hopdS fop (by simp)]; exact hcf) hcb (by rw [List.map_congr_left fun x hx => hopdS x (by simp [hx])]) hpo
               (fun d o1 nx' _ ⟨h1, h2, h3⟩ => ⟨o1, h2, by cases h1; rw [h3]⟩) (fun ch o1 nx' _ ⟨h1, _⟩ => by cases h1)
      have heff : EffP P Γ o (stW ops T W s M fun j => listed.getD j false) fun s' => ∃ o1, (∀ y, getK o1 y = getK O' y) /\ s' = (({ (stW ops T W s M fun j => listed.getD j false) with obs := F ++ o1, next := M } : St).put o.dst (T i)) := by
       have e := hcall;rcases o with ⟨odst, oop, ot, opos, oaf, og⟩
       unfold zbf at hco;split at hco
       ·rename_i c hop;simp only at hop;subst hop;split at hco
        ·cases hco;rename_i f' hcal;obtain ⟨cal, cargs, cts⟩ := c;simp only at hcal;subst hcal;exact EffP.guard (e cts ot opos oaf)
        ·cases hco
       ·cases hco
      refine .inl (heff K a w hin hs _ _ (fun K' a' w' s' h1 h2 h3 => ?_) fun ch K' a' w' s' h1 h2 h3 => .inl ⟨K', s', h1, h2, h3⟩);obtain ⟨o1, ho1, rfl⟩ := h3;have hWi : ∀ y, y ∈ zdC (W i) -> getK (zeG W (fun j => listed.getD j false || j == i) ops.length) y = getK (W i) y := fun y hy =>
       zg9 W _ i y hy ops.length hil fun j hj hlt hk => hlast y hy j hj hlt hk
      have hWn : ∀ y, y ∉ zdC (W i) -> getK (zeG W (fun j => listed.getD j false || j == i) ops.length) y = getK (zeG W (fun j => listed.getD j false) ops.length) y := fun y hy =>
       zcs W _ _ y ops.length fun j hj hk => by
               by_cases hji : j = i
               ·subst hji; exact absurd hk hy
               ·simp [hji]
      have pobs : ∀ (q : St) (d : D), (q.put o.dst d).obs = q.obs := fun q d => by cases o.dst <;> rfl
      have pn : ∀ (q : St) (d : D), (q.put o.dst d).n = q.n := fun q d => by cases o.dst <;> rfl
      have pnext : ∀ (q : St) (d : D), (q.put o.dst d).next = q.next := fun q d => by cases o.dst <;> rfl
      have hobs2 : ∀ y ob', getK (stW ops T W s M fun j => listed.getD j false || j == i).obs y = some ob' → y < M ∧
               ∃ ob, getK (({ (stW ops T W s M fun j => listed.getD j false) with obs := F ++ o1, next := M } : St).put o.dst (T i)).obs (ρ y) = some ob /\ Ob.le ρ ob ob' /\ ob'.under M = true := fun y ob' hy => by
       rw [pobs];simp only [stW, zao] at hy;by_cases hk : y ∈ zdC (W i)
       ·rw [hWi y hk, hWg y hk] at hy;have hyO : y ∈ O.map (·.1) := ((hkW y).1 hk).2;obtain ⟨x0, hx0⟩ := zdv (l := O) (y := y) hyO;obtain ⟨⟨hr, hlt⟩, _⟩ := hobs y x0 (hOget y x0 hx0);cases hq : getK O' y with
        | none =>
         rw [hq] at hy;simp at hy
        | some ob =>
         rw [hq] at hy;have hy : ob = ob' := by simpa using hy
         subst hy;have hga := zf7 (M := M) hρs hM (hOu _ (zft hq));refine ⟨hlt, ob, ?_, (Ob.zdc hga).1, (Ob.zdc hga).2⟩;rw [hr, zab, hFg, if_pos (by simpa using hyO), ho1 y, hq]
       ·rw [hWn y hk] at hy;obtain ⟨⟨hr, hlt⟩, hga⟩ := hobs y ob' (by simp only [stW, zao]; exact hy);refine ⟨hlt, ob', ?_, (Ob.zdc hga).1, (Ob.zdc hga).2⟩;by_cases hyO : (O.map (·.1)).contains y = true
        ·have hL : L.contains y = false := by
          cases hL : L.contains y with
          | false => rfl
          | true => exact absurd ((hkW y).2 ⟨hL, by simpa using hyO⟩) hk
         obtain ⟨x0, hx0⟩ := zdv (l := O) (y := y) (by simpa using hyO);have hx1 := hOget y x0 hx0;simp only [stW, zao] at hx1;rw [hy] at hx1;rw [hr, zab, hFg, if_pos hyO, ho1 y, hsm y hL, hx0];exact hx1.symm
        ·rw [hr, zab, hFg, if_neg hyO];simp only [stW, zao];rw [hy]
      have henv2 : ∀ x d', getK (stW ops T W s M fun j => listed.getD j false || j == i).env x = some d' →
               (D.le ρ ((({ (stW ops T W s M fun j => listed.getD j false) with obs := F ++ o1, next := M } : St).put o.dst (T i)).at x) d' /\ d'.under M = true) /\ x < s.n := fun x d' hx => by
       simp only [stW] at hx;by_cases hdx : o.dst = some x
       ·rw [henv x hdx] at hx;cases hx;have hlt : x < s.n := by rw [hdx] at hpo; exact hpo
        have hg := zdD (M := M) hρs hM hdu;refine ⟨⟨.inr (.inl ?_), hg.2⟩, hlt⟩;simp only [hdx, St.put, St.at, zaa, if_true, Option.getD_some];exact hg.1.symm
       ·rw [henv' x hdx] at hx;obtain ⟨g1, g2⟩ := hs.env x d' hx;have hgd := g2.good hknown;have hat : (({ (stW ops T W s M fun j => listed.getD j false) with obs := F ++ o1, next := M } : St).put o.dst (T i)).at x = d' := by
         have : ∀ (q : St) (d : D), getK (q.put o.dst d).env x = getK q.env x := fun q d => by
          cases hd : o.dst with
          | none => rfl
          | some y =>
           have hne : ¬ x = y := fun e => hdx (by rw [hd, e]);simp only [St.put, zaa, if_neg hne]
         simp only [St.at, this, stW, hx]
         try rfl
        rw [hat];exact ⟨⟨.inr (.inl hgd.1.symm), hgd.2⟩, g1⟩
      have hinj : ∀ y1 y2, y1 < M -> y2 < M -> ρ y1 = ρ y2 -> y1 = y2 := fun y1 y2 g1 g2 hr => by
       simp only [ρ] at hr;split at hr <;> split at hr <;> omega
      have hle : St.Le Γ.n0 ρ (({ (stW ops T W s M fun j => listed.getD j false) with obs := F ++ o1, next := M } : St).put o.dst (T i)) (stW ops T W s M fun j => listed.getD j false || j == i) := by
       refine ⟨by rw [pn]; rfl, fun x d' hx => (henv2 x d' hx).1, fun x d' hx => by rw [pn]; exact (henv2 x d' hx).2, hobs2, fun y1 y2 o1 o2 g1 g2 hr => hinj y1 y2 (hobs2 y1 o1 g1).1 (hobs2 y2 o2 g2).1 hr, fun j hj => ⟨hρs j (by omega), ?_⟩⟩;show j < M;omega
      obtain ⟨g1, g2⟩ := Sim.weak h1 h2 hle;refine go _ a' w' g1 g2 fun j x hj hu hc => ?_;simp only [Kr.ren];split
      ·have c2 : un x := ⟨j, hj, hu, hc⟩;simp only [ρ];rw [if_pos c2];refine h2.hdr _ ?_;rw [pnext];show M <= M + 1 + x;omega
      ·rfl
     ·
      have hOact : ∀ p ∈ O, getK (stW ops T W s M fun j => listed.getD j false).obs p.1 = some p.2 := fun p hp => by
       rw [<- hloc p.1 (by rw [hR]; exact List.mem_map.2 ⟨p, hp, rfl⟩)];exact hO p hp
      have hOget : ∀ y ob, getK O y = some ob -> getK (stW ops T W s M fun j => listed.getD j false).obs y = some ob := fun y ob h => hOact _ (zft h)
      let F := (stW ops T W s M fun j => listed.getD j false).obs.filter fun p => !(O.map (·.1)).contains p.1
      have hFg : ∀ y, getK F y = if (O.map (·.1)).contains y = true then none else getK (stW ops T W s M fun j => listed.getD j false).obs y := fun y => zdf _ _ y;have hOn : ∀ y, ¬ (O.map (·.1)).contains y = true -> getK O y = none := fun y h => zcw O y (by simpa using h);have heq : ∀ y, getK (stW ops T W s M fun j => listed.getD j false).obs y = getK (F ++ O) y := fun y => by
       rw [zab, hFg];by_cases hy : (O.map (·.1)).contains y = true
       ·rw [if_pos hy];obtain ⟨x, hx⟩ := zdv (l := O) (y := y) (by simpa using hy);rw [hx, hOget y x hx]
       ·rw [if_neg hy, hOn y hy];cases getK (stW ops T W s M fun j => listed.getD j false).obs y <;> rfl
      have hF : ∀ y ob, getK F y = some ob -> getK O y = none := fun y ob h => by
       rw [hFg] at h;by_cases hy : (O.map (·.1)).contains y = true
       ·rw [if_pos hy] at h; cases h
       ·exact hOn y hy
      have hopdS : ∀ x, x ∈ fop :: args -> opd (stW ops T W s M fun j => listed.getD j false) x = opd (stW ops T W s M fun j => decide (j < i)) x := fun x hx => (hopd x (by
       rcases o with ⟨odst, oop, ot, opos, oaf, og⟩
       unfold zbf at hco;split at hco
       ·rename_i c hop;simp only at hop;subst hop;split at hco
        ·cases hco;rename_i f' hcal;simp only [Op.operands, Call.operands, hcal];simp only [List.mem_cons] at hx;simp;rcases hx with rfl | hx
         ·exact .inl rfl
         ·exact .inr (by simpa using hx)
        ·cases hco
       ·cases hco)).symm
      have hMn : getK (stW ops T W s M fun j => listed.getD j false).obs M = none := by
       cases hq : getK (stW ops T W s M fun j => listed.getD j false).obs M with
       | none => rfl
       | some ob =>
               obtain ⟨h, h1, _⟩ := hs.sat.ob M ob hq;rw [hs.hdr M (Nat.le_refl _)] at h1;cases h1
      have hcall : CallP P Γ fop args o.dst (stW ops T W s M fun j => listed.getD j false) fun s' => ∃ o1, (∀ y, getK o1 y = getK ((M, nb) :: O) y) /\ s' = (({ (stW ops T W s M fun j => listed.getD j false) with obs := F ++ o1, next := M + 1 } : St).put o.dst (mkD e.how M)) :=
       CallP.xF F O (hret M (by first | exact Nat.le_refl _ | exact hM)) heq hF (by rw [hopdS fop (by simp)]; exact hcf) hcb (by rw [List.map_congr_left fun x hx => hopdS x (by simp [hx])]) hpo
               (fun d o1 nx' _ ⟨h1, h2, h3⟩ => ⟨o1, h2, by cases h1; rw [h3]⟩) (fun ch o1 nx' _ ⟨h1, _⟩ => by cases h1)
      have heff : EffP P Γ o (stW ops T W s M fun j => listed.getD j false) fun s' => ∃ o1, (∀ y, getK o1 y = getK ((M, nb) :: O) y) /\ s' = (({ (stW ops T W s M fun j => listed.getD j false) with obs := F ++ o1, next := M + 1 } : St).put o.dst (mkD e.how M)) := by
       have e := hcall;rcases o with ⟨odst, oop, ot, opos, oaf, og⟩
       unfold zbf at hco;split at hco
       ·rename_i c hop;simp only at hop;subst hop;split at hco
        ·cases hco;rename_i f' hcal;obtain ⟨cal, cargs, cts⟩ := c;simp only at hcal;subst hcal;exact EffP.guard (e cts ot opos oaf)
        ·cases hco
       ·cases hco
      refine .inl (heff K a w hin hs _ _ (fun K' a' w' s' h1 h2 h3 => ?_) fun ch K' a' w' s' h1 h2 h3 => .inl ⟨K', s', h1, h2, h3⟩);obtain ⟨o1, ho1, rfl⟩ := h3;refine mk e (by rw [heU]; simp) (fun ob h => by rw [heN] at h; cases h; exact zf7 hρs0 hM hnu) (by rw [heN]; exact ⟨x0, hcx⟩) K' a' w' h1 (h2.eqo ?_);have pobs : ∀ (q : St) (d : D), (q.put o.dst d).obs = q.obs := fun q d => by cases o.dst <;> rfl
      have pn : ∀ (q : St) (d : D), (q.put o.dst d).n = q.n := fun q d => by cases o.dst <;> rfl
      have pnext : ∀ (q : St) (d : D), (q.put o.dst d).next = q.next := fun q d => by cases o.dst <;> rfl
      have penv : ∀ (q q' : St) (d : D) (x : Nat), q.env = q'.env -> getK (q.put o.dst d).env x = getK (q'.put o.dst d).env x := fun q q' d x e => by cases o.dst <;> simp [St.put, e]
      simp only [St.effS, heN];refine ⟨by rw [pn, pn], fun y => ?_, by rw [pnext, pnext]; rfl, fun x => penv _ _ _ x rfl⟩;rw [pobs, pobs];simp only [heU];rw [zab, ho1, zaa, zaa];show _ = if y = M then some nb else getK (zai [] (stW ops T W s M fun j => listed.getD j false).obs) y;have hap : zai [] (stW ops T W s M fun j => listed.getD j false).obs = (stW ops T W s M fun j => listed.getD j false).obs := rfl;rw [hap];by_cases hy : y = M
      ·subst hy;have hFM : getK F y = none := by rw [hFg, hMn]; split <;> rfl
       rw [hFM];simp
      ·rw [if_neg hy, if_neg hy, heq y, zab]
    ·rw [if_neg (by rw [hw]; simp)];exact next hv.2 K undef w hin (.refl _) rfl hs.sat (by rw [hv.1]; exact .u _ _ (.oth _))
 have h0 : (fun j => (Array.replicate ops.toArray.size false).getD j false) = fun _ => false := funext fun j => by
  by_cases hj : j < ops.length <;> simp [hj]
 refine key _ _ K a w0 (by simp) (by simp) (fun j y hj hS => ?_) hin0 ?_ (fun j x _ _ hc => hs.hdr x (hcr j x hc).1) (fun p _ _ => congrFun h0 p)
 ·have : (Array.replicate ops.toArray.size false).getD j false = false := congrFun h0 j;rw [this] at hS;cases hS
 ·rw [h0];have none : ∀ (l : List Oper) (i : Nat) (e : List (Nat × D)), zfe T (fun _ => false) l i e = e := by
   intro l
   induction l with
   | nil => intro i e; rfl
   | cons o l ih => intro i e; simp [zfe, ih]
  have wn : ∀ m, zeG W (fun _ => false) m = [] := by
   intro m
   induction m with
   | zero => rfl
   | succ m ih => simp [zeG, ih]
  refine ⟨hs0.sat.eqo fun y => ?_, hs0.defers, hs0.size, fun x d hx => hs0.env x d ?_, fun y hy => hs0.hdr y (Nat.le_trans hM hy)⟩
  ·simp only [stW, wn]; rfl
  ·simp only [stW, none] at hx; exact hx
abbrev zsn := Ent × Nat
abbrev Fp4 := List (List Nat × List Nat × Nat)
def eE (E : Nat -> zsn) (j : Nat) : Ent := (E j).1
def tF4 (E : Nat -> zsn) (n : Nat) : Fp4 := (List.range n).map fun j => (tR (eE E) j, zdC (tW (eE E) j), (E j).2)
def zvJ (P : Program) (N : Nat) (s : St) (o : O1) (e : Ent) : Prop :=
 match o.guard with
 | none => ztu P N s o.op o.dst e.1 e.2.1 e.2.2.1 e.2.2.2
 | some (t, want) => (∃ b, getK s.env t = some (.u (.bool b)) /\ if b = want then ztu P N s o.op o.dst e.1 e.2.1 e.2.2.1 e.2.2.2 else e.1 = .un /\ e.2.1 = [] /\ e.2.2.1 = none) \/
  (getK s.env t = some .un /\ e.1 = .un /\ e.2.1 = [] /\ e.2.2.1 = none)
def Op4 (P : Program) (Γ : Ctx) (N : Nat) (s : St) (o : O1) (e : zsn) : Prop :=
 if e.2 = 2 then e.1.2.1 = [] /\ e.1.2.2.1 = none else if e.2 = 1 then o.guard = none /\ ztr P Γ s o.op /\ e.1.2.1 = [] /\ e.1.2.2.1 = none else e.2 = 0 /\ zvJ P N s o e.1
def zlm (P : Program) (Γ : Ctx) (N : Nat) : List O1 -> St -> Fp4 -> (St -> Fp4 -> Prop) -> Prop
 | [], s, fp, k => k s fp
 | o :: rest, s, fp, k => ∃ e : zsn, zaq o.dst s /\ Op4 P Γ N s o e /\ (∀ x, e.1.2.2.1 = some x -> x = s.next) /\ zlm P Γ N rest (s.app o.dst e.1) (fp ++ [(e.1.2.2.2, zdC e.1.2.1, e.2)]) k
def HD4 (P : Program) (Γ : Ctx) (N : Nat) (l : List O1) (s : St) (fp : Fp4) (C : Fp4 -> Prop) (k : St -> Prop) : Prop :=
 ∀ s0 : St, s0.Eqo s -> zlm P Γ N l s0 fp fun s1 fp => C fp /\ ((∀ p ∈ fp, p.2.2 ≠ 1) -> ∃ s', s1.Eqo s' /\ k s')
def zgw (P : Program) (Γ : Ctx) (N : Nat) (o : O1) (rest : List O1) (s : St) (fp : Fp4) (C : Fp4 -> Prop) (k : St -> Prop) : Prop :=
 ∀ s0 : St, s0.Eqo s -> ∃ e : zsn, zaq o.dst s0 /\ Op4 P Γ N s0 o e /\ e.2 ≠ 1 /\ (∀ x, e.1.2.2.1 = some x -> x = s0.next) /\ zlm P Γ N rest (s0.app o.dst e.1) (fp ++ [(e.1.2.2.2, zdC e.1.2.1, e.2)]) fun s1 fp => C fp /\ ((∀ p ∈ fp, p.2.2 ≠ 1) -> ∃ s', s1.Eqo s' /\ k s')
theorem HD4.of_h {P Γ N o rest s fp C k} (h : zgw P Γ N o rest s fp C k) : HD4 P Γ N (o :: rest) s fp C k := fun s0 e => by
 obtain ⟨en, h1, h2, _, h3, h4⟩ := h s0 e;exact ⟨en, h1, h2, h3, h4⟩
theorem ztx {P Γ N s fp C k} (hC : C fp) (h : k s) : HD4 P Γ N [] s fp C k := fun s0 e => ⟨hC, fun _ => ⟨s, e, h⟩⟩
theorem zhp {P Γ N s fp C k} (hC : C fp) (h : (fp.any fun p => p.2.2 == 1) = true) : HD4 P Γ N [] s fp C k := fun s0 e => ⟨hC, fun h1 => by
 obtain ⟨p, hp, hk⟩ := List.any_eq_true.1 h;exact absurd (by simpa using hk) (h1 p hp)⟩
theorem zbs {P Γ N s dst op rest fp C k} (_ : zbc op = false) (h : valD P s op fun d => zaq dst s /\ HD4 P Γ N rest (s.put dst d) (fp ++ [(zbi s op, [], 0)]) C k) : zgw P Γ N ⟨dst, op, none⟩ rest s fp C k := fun s0 e => by
 obtain ⟨d, hv, hp, hr⟩ := Lin.valD.2 _ h;refine ⟨((d, [], none, zbi s op), 0), by cases dst <;> simp_all [zaq, e.1], ?_, by simp, fun x hx => (by cases hx), hr _ (e.put dst d)⟩;unfold Op4;rw [if_neg (by simp), if_neg (by simp)];exact ⟨rfl, .inl (.inl ⟨by rw [zmD e]; exact hv, rfl, rfl, (zdZ e op).symm⟩)⟩
theorem zrV {P Γ N s dst op rest fp C k} (_ : zbc op = true) (h : effD P s op fun e => zaq dst s /\ (e.nw = none -> dst = none) /\
  HD4 P Γ N rest (s.effS e dst) (fp ++ [(zbi s op, match e.nw with | none => (e.U.map (·.1), 0) | some _ => (s.next :: e.U.map (·.1), 0))]) C k) : zgw P Γ N ⟨dst, op, none⟩ rest s fp C k := fun s0 e0 => by
 obtain ⟨e, hv, hp, hd, hr⟩ := Lin.effD.2 _ h;have hp0 : zaq dst s0 := by cases dst <;> simp_all [zaq, e0.1]
 have hv0 : effD P s0 op (· = e) := by rw [zjW e0]; exact hv
 cases hn : e.nw with
 | none =>
  obtain rfl := hd hn;refine ⟨((.any, e.U, none, zbi s op), 0), hp0, ?_, by simp, fun x hx => (by cases hx), ?_⟩
  ·unfold Op4;rw [if_neg (by simp), if_neg (by simp)];exact ⟨rfl, .inl (.inr ⟨e, hv0, (zdZ e0 op).symm, by rw [hn]; exact ⟨rfl, rfl, rfl⟩⟩)⟩
  rw [hn] at hr;refine hr _ ?_;simp only [St.app, St.effS, hn, St.put];exact ⟨e0.1, fun x => by simp only [zao, e0.2.1 x], e0.2.2.1, e0.2.2.2⟩
 | some ob =>
  refine ⟨((mkD e.how s0.next, (s0.next, some ob) :: e.U, some s0.next, zbi s op), 0), hp0, ?_, by simp, fun x hx => (by cases hx; rfl), ?_⟩
  ·unfold Op4;rw [if_neg (by simp), if_neg (by simp)];exact ⟨rfl, .inl (.inr ⟨e, hv0, (zdZ e0 op).symm, by rw [hn]; exact ⟨s0.next, rfl, rfl, rfl⟩⟩)⟩
  rw [hn] at hr;have h1 := hr (s0.app dst (mkD e.how s0.next, (s0.next, some ob) :: e.U, some s0.next, zbi s op)) (by
   simp only [St.app, St.effS, hn, e0.2.2.1];apply St.Eqo.put;refine ⟨e0.1, fun x => ?_, by simp, e0.2.2.2⟩;simp only [zai, zad, zaa, zao, e0.2.1 x])
  simp only [zdC, List.map_cons];rw [e0.2.2.1] at h1 ⊢;exact h1
theorem zcg {P Γ N s dst op rest fp C k} (h0 : zbc op = false) (h : valD P s op fun d => zaq dst s /\ HD4 P Γ N rest (s.put dst d) (fp ++ [(zbi s op, [], 0)]) C k) : HD4 P Γ N (⟨dst, op, none⟩ :: rest) s fp C k := .of_h (zbs h0 h)
theorem zqd {P Γ N s dst op rest fp C k t want b} (hb : getK s.env t = some (.u (.bool b))) (hp : zaq dst s)
  (hy : b = want -> zgw P Γ N ⟨dst, op, none⟩ rest (s.put (some t) (.u (.bool want))) fp C k)
  (hn : b = !want -> HD4 P Γ N rest ((s.put (some t) (.u (.bool (!want)))).put dst .un) (fp ++ [([], [], 0)]) C k) : HD4 P Γ N (⟨dst, op, some (t, want)⟩ :: rest) s fp C k := fun s0 e => by
 have lit : ∀ b', b = b' -> s.Eqo (s.put (some t) (.u (.bool b'))) := fun b' e' => ⟨rfl, fun _ => rfl, rfl, fun x => by
  subst e';simp only [St.put, zaa];split
  ·rename_i hx; rw [hx, hb]
  ·rfl⟩
 have hp0 : zaq dst s0 := by cases dst <;> simp_all [zaq, e.1]
 by_cases hw : b = want
 ·have e1 := e.trans (lit want hw);obtain ⟨en, h1, h2, h5, h3, h4⟩ := hy hw s0 e1;refine ⟨en, h1, ?_, h3, h4⟩;unfold Op4 at h2 ⊢;by_cases h6 : en.2 = 2
  ·rw [if_pos h6] at h2 ⊢;exact h2
  ·rw [if_neg h6, if_neg h5] at h2 ⊢;exact ⟨h2.1, .inl ⟨b, by rw [e.2.2.2 t]; exact hb, by rw [if_pos hw]; exact h2.2⟩⟩
 ·have hw' : b = !want := by cases b <;> cases want <;> simp_all
  have e1 := e.trans (lit _ hw');refine ⟨((.un, [], none, []), 0), hp0, ?_, fun x hx => (by cases hx), hn hw' _ (e1.put dst .un)⟩;unfold Op4;rw [if_neg (by simp), if_neg (by simp)];exact ⟨rfl, .inl ⟨b, by rw [e.2.2.2 t]; exact hb, by rw [if_neg hw]; exact ⟨rfl, rfl, rfl⟩⟩⟩
theorem zor {P Γ N s dst op rest fp C k t want} (hb : getK s.env t = some .un) (hp : zaq dst s) (hn : HD4 P Γ N rest (s.put dst .un) (fp ++ [([], [], 0)]) C k) :
  HD4 P Γ N (⟨dst, op, some (t, want)⟩ :: rest) s fp C k := fun s0 e => by
 refine ⟨((.un, [], none, []), 0), by cases dst <;> simp_all [zaq, e.1], ?_, fun x hx => (by cases hx), hn _ (e.put dst .un)⟩;unfold Op4;rw [if_neg (by simp), if_neg (by simp)];exact ⟨rfl, .inr ⟨by rw [e.2.2.2 t]; exact hb, rfl, rfl, rfl⟩⟩
theorem zrX {P Γ N s dst op g rest fp C k} (hp : zaq dst s) (h : HD4 P Γ N rest (s.put dst .any) (fp ++ [([], [], 2)]) C k) : HD4 P Γ N (⟨dst, op, g⟩ :: rest) s fp C k := fun s0 e => by
 refine ⟨((.any, [], none, []), 2), by cases dst <;> simp_all [zaq, e.1], ?_, fun x hx => (by cases hx), h _ (e.put dst .any)⟩;unfold Op4;rw [if_pos rfl];exact ⟨rfl, rfl⟩
theorem zmn (W : Wr) {o o' : List (Nat × Ob)} (h : ∀ y, getK o y = getK o' y) : ∀ y, getK (zai W o) y = getK (zai W o') y := fun y => by rw [zao, zao, h y]
theorem zja {O O' : List (Nat × Ob)} (L : List Nat) (hkeys : O'.map (·.1) = O.map (·.1)) (y : Nat) :
  y ∈ zdC ((O'.filter fun p => L.contains p.1).map (fun p => (p.1, some p.2)) : Wr) ↔ L.contains y = true /\ y ∈ O.map (·.1) := by
 rw [<- hkeys];simp only [zdC, List.map_map, List.mem_map, List.mem_filter, Function.comp];exact ⟨fun ⟨p, ⟨h1, h2⟩, h3⟩ => ⟨h3 ▸ h2, p, h1, h3⟩, fun ⟨h1, p, h2, h3⟩ => ⟨p, ⟨h2, by rw [h3]; exact h1⟩, h3⟩⟩
theorem zpZ {O O' : List (Nat × Ob)} (L : List Nat) (hkeys : O'.map (·.1) = O.map (·.1)) (y : Nat) (hy : y ∈ zdC ((O'.filter fun p => L.contains p.1).map (fun p => (p.1, some p.2)) : Wr)) :
  getK ((O'.filter fun p => L.contains p.1).map (fun p => (p.1, some p.2)) : Wr) y = some (getK O' y) := by
 obtain ⟨h1, h2⟩ := (zja L hkeys y).1 hy;rw [zjN, zk2, if_pos h1];obtain ⟨x, hx⟩ := zdv (l := O') (y := y) (by rw [hkeys]; exact h2);rw [hx]; rfl
theorem zqe {P : Program} {Γ : Ctx} {N : Nat} {s : St} {dst : Option Tmp} {rest fp C k} {fop : Operand} {args : Array Operand} {ts : Array TypeId} {f caps} {ds : List D} {d : D} (O O' : List (Nat × Ob)) (L : List Nat)
  (hret : ∀ nx, s.next <= nx -> RetX P f ds O nx fun r o n => r = .val d /\ (∀ y, getK o y = getK O' y) /\ n = nx)
  (hf : zag (opd s fop) = some (f, caps)) (hc : zae P f = true) (hds : args.toList.map (opd s) ++ caps = ds) (hkeys : O'.map (·.1) = O.map (·.1)) (hsm : ∀ y, L.contains y = false -> getK O' y = getK O y) (hO : ∀ p ∈ O, getK s.obs p.1 = some p.2) (hnd : (O.map (·.1)).Nodup)
  (hu : d.under N = true /\ ∀ p ∈ O', p.2.under N = true) (hp : zaq dst s)
  (h : HD4 P Γ N rest (({ s with obs := zai ((O'.filter fun p => L.contains p.1).map fun p => (p.1, some p.2)) s.obs } : St).put dst d) (fp ++ [(O.map (·.1), (O'.filter fun p => L.contains p.1).map (·.1), 0)]) C k) :
  HD4 P Γ N (⟨dst, .call { callee := .value fop, args, argTypes := ts }, none⟩ :: rest) s fp C k := fun s0 e => by
 refine ⟨((d, (O'.filter fun p => L.contains p.1).map (fun p => (p.1, some p.2)), none, O.map (·.1)), 0), by cases dst <;> simp_all [zaq, e.1], ?_, fun x hx => (by cases hx), ?_⟩
 ·unfold Op4;rw [if_neg (by simp), if_neg (by simp)];refine ⟨rfl, .inr (.inl ⟨⟨fop, args.toList, f, caps, O, O', L, rfl, by rw [zeY e]; exact hf, hc, rfl, zja L hkeys, zpZ L hkeys, hsm, fun p hp => by rw [e.2.1]; exact hO p hp, hnd, hu, fun nx hnx => ?_⟩, rfl⟩)⟩;have e1 : args.toList.map (opd s0) = args.toList.map (opd s) := List.map_congr_left fun x _ => zeY e x;rw [e1, hds];exact hret nx (by rw [e.2.2.1] at hnx; exact hnx)
 ·have := h (s0.app dst (d, (O'.filter fun p => L.contains p.1).map (fun p => (p.1, some p.2)), none, O.map (·.1))) (by
   simp only [St.app];apply St.Eqo.put;exact ⟨e.1, zmn _ e.2.1, by simpa using e.2.2.1, e.2.2.2⟩)
  simpa [zdC, List.map_map, Function.comp_def] using this
theorem zn3 {O O' : List (Nat × Ob)} (hkeys : O'.map (·.1) = O.map (·.1)) : (O'.filter fun p => (O.map (·.1)).contains p.1) = O' := by
 refine List.filter_eq_self.2 fun p hp => ?_;rw [<- hkeys];simp only [List.contains_eq_mem, decide_eq_true_eq];exact List.mem_map.2 ⟨p, hp, rfl⟩
theorem zrY {P : Program} {Γ : Ctx} {N : Nat} {s : St} {dst : Option Tmp} {rest fp C k} {fop : Operand} {args : Array Operand} {ts : Array TypeId} {f caps} {ds : List D} {d : D} (O O' : List (Nat × Ob))
  (hret : ∀ nx, s.next <= nx -> RetX P f ds O nx fun r o n => r = .val d /\ (∀ y, getK o y = getK O' y) /\ n = nx)
  (hf : zag (opd s fop) = some (f, caps)) (hc : zae P f = true) (hds : args.toList.map (opd s) ++ caps = ds) (hkeys : O'.map (·.1) = O.map (·.1)) (hO : ∀ p ∈ O, getK s.obs p.1 = some p.2) (hnd : (O.map (·.1)).Nodup)
  (hu : d.under N = true /\ ∀ p ∈ O', p.2.under N = true) (hp : zaq dst s)
  (h : HD4 P Γ N rest (({ s with obs := zai (O'.map fun p => (p.1, some p.2)) s.obs } : St).put dst d) (fp ++ [(O.map (·.1), O'.map (·.1), 0)]) C k) :
  HD4 P Γ N (⟨dst, .call { callee := .value fop, args, argTypes := ts }, none⟩ :: rest) s fp C k :=
 zqe O O' (O.map (·.1)) hret hf hc hds hkeys (fun y hy => by
  rw [zcw O y (by simpa using hy), zcw O' y (by rw [hkeys]; simpa using hy)]) hO hnd hu hp (by rw [zn3 hkeys]; exact h)
theorem zrW {P : Program} {Γ : Ctx} {N : Nat} {s : St} {dst : Option Tmp} {rest fp C k} {fop : Operand} {args : Array Operand} {ts : Array TypeId} {f caps} {ds : List D} {post : Out -> List (Nat × Ob) -> Nat -> Prop} (O : List (Nat × Ob))
  (hret : ∀ nx, s.next <= nx -> RetX P f ds O nx post) (hno : ∀ d o n, ¬ post (.val d) o n)
  (hf : zag (opd s fop) = some (f, caps)) (hc : zae P f = true) (hds : args.toList.map (opd s) ++ caps = ds) (hO : ∀ p ∈ O, getK s.obs p.1 = some p.2) (hp : zaq dst s)
  (hx : ∀ env ch o n, s.next <= n -> post (.pan ch) o n -> ∃ s2, Wk Γ { n := s.n, env := env, obs := (s.obs.filter fun p => !(O.map (·.1)).contains p.1) ++ o, next := n } s2 /\ Γ.pan ch s2)
  (h : HD4 P Γ N rest (s.put dst .any) (fp ++ [([], [], 1)]) C k) :
  HD4 P Γ N (⟨dst, .call { callee := .value fop, args, argTypes := ts }, none⟩ :: rest) s fp C k := fun s0 e => by
 refine ⟨((.any, [], none, []), 1), by cases dst <;> simp_all [zaq, e.1], ?_, fun x hx => (by cases hx), h _ (e.put dst .any)⟩;unfold Op4;rw [if_neg (by simp), if_pos rfl];refine ⟨rfl, fun s' hn ho hopd hnx o hop hg hpo => ?_, rfl, rfl⟩;obtain ⟨odst, oop, ot, opos, oaf, og⟩ := o;simp only at hop hg hpo;subst hop;subst hg;have hopS : ∀ x ∈ fop :: args.toList, opd s' x = opd s x := fun x hx => by
  rw [hopd x (by
   simp only [Op.operands, Call.operands];simp only [List.mem_cons] at hx;simp;rcases hx with rfl | hx
   ·exact .inl rfl
   ·exact .inr (by simpa using hx)), zeY e]
 have hOget : ∀ y, getK s'.obs y = getK s.obs y := fun y => by rw [ho, e.2.1]
 have hcall : CallP P Γ fop args.toList odst s' fun _ => False :=
  CallP.xF (s'.obs.filter fun p => !(O.map (·.1)).contains p.1) O (hret s'.next (by rw [<- e.2.2.1]; exact hnx)) (fun y => by
   rw [zab, zdf];by_cases hy : (O.map (·.1)).contains y = true
   ·rw [if_pos hy];obtain ⟨x, hx⟩ := zdv (l := O) (y := y) (by simpa using hy);rw [hx, hOget y, hO _ (zft hx)]
   ·rw [if_neg hy, zcw O y (by simpa using hy)];cases getK s'.obs y <;> rfl) (fun y ob hy => by
   rw [zdf] at hy;by_cases hc : (O.map (·.1)).contains y = true
   ·rw [if_pos hc] at hy; cases hy
   ·exact zcw O y (by simpa using hc)) (by rw [hopS fop (by simp)]; exact hf) hc (by rw [List.map_congr_left fun x hx => hopS x (by simp [hx])]; exact hds) hpo
   (fun d o1 nx' _ hp => absurd hp (hno d o1 nx')) (fun ch o1 nx' hn' hp => by
     obtain ⟨s2, h1, h2⟩ := hx s'.env ch o1 nx' (by have := e.2.2.1; omega) hp;refine ⟨s2, fun K a w hin hs => h1 K a w hin (hs.eqo ⟨by simp [hn, e.1], fun y => ?_, rfl, fun _ => rfl⟩), h2⟩;simp only [zab, zdf, hOget])
 exact hcall ts ot opos oaf
theorem zm9 {P : Program} {Γ : Ctx} {N : Nat} {all : Array Oper} {s0 : St} {ops : List Oper} {k : St -> Fp4 -> Prop} : ∀ (l : List O1) (tail : List Oper) (i : Nat) (E : Nat -> zsn), zaW all tail = some l -> (∀ j, tail[j]? = ops[i + j]?) ->
  zlm P Γ N l (stE ops s0 (eE E) i) (tF4 E i) k -> ∃ E' : Nat -> zsn, (∀ j, j < i -> E' j = E j) /\
   (∀ j o, i <= j -> ops[j]? = some o -> zaq o.dst s0 /\ (if (E' j).2 = 2 then tW (eE E') j = [] /\ tC (eE E') j = none else if (E' j).2 = 1 then o.guard = none /\ ztr P Γ (stE ops s0 (eE E') j) o.op /\ tW (eE E') j = [] /\ tC (eE E') j = none else
     (E' j).2 = 0 /\ zus P N all (stE ops s0 (eE E') j) o (tT (eE E') j) (tW (eE E') j) (tC (eE E') j) (tR (eE E') j)) /\ ∀ x, tC (eE E') j = some x -> x = s0.next + cnt (eE E') j) /\
   k (stE ops s0 (eE E') (i + tail.length)) (tF4 E' (i + tail.length))
 | [], tail, i, E, hs, ht, h => by
  cases tail with
  | nil => exact ⟨E, fun _ _ => rfl, fun j o hj ho => by have := ht (j - i); rw [show i + (j - i) = j by omega, ho] at this; simp at this, by simpa [zlm] using h⟩
  | cons x l => simp only [zaW] at hs; split at hs <;> simp at hs
 | o1 :: l, tail, i, E, hs, ht, h => by
  obtain ⟨x, tl, rfl, hx, hr⟩ := zdS hs;obtain ⟨e, hp, hv, hnx, hc⟩ := h;have hxi : ops[i]? = some x := by have := ht 0; simpa using this.symm
  have hdst : o1.dst = x.dst /\ o1.op = x.op := by
   unfold zcy at hx;split at hx
   ·simp at hx; subst hx; exact ⟨rfl, rfl⟩
   ·split at hx
    ·simp at hx; subst hx; exact ⟨rfl, rfl⟩
    ·cases hx
  let E1 : Nat -> zsn := fun j => if j = i then e else E j
  have h1 : ∀ j, j < i -> E j = E1 j := fun j hj => by simp only [E1]; rw [if_neg (by omega)]
  have h1' : ∀ j, j < i -> eE E j = eE E1 j := fun j hj => by simp only [eE, h1 j hj]
  have hi : E1 i = e := by simp [E1]
  have hi' : eE E1 i = e.1 := by simp only [eE, hi]
  have zbP : (stE ops s0 (eE E) i).app o1.dst e.1 = stE ops s0 (eE E1) (i + 1) := by
   rw [zf4 h1', hdst.1];simp only [stE, St.app];rw [zh7 (tT (eE E1)) i ops 0 s0.env x (Nat.zero_le _) (by simpa using hxi)];have hw : zeG (tW (eE E1)) (fun _ => true) (i + 1) = e.1.2.1 ++ zeG (tW (eE E1)) (fun _ => true) i := by
    rw [zeG, if_pos rfl, show tW (eE E1) i = e.1.2.1 by simp only [tW, hi']]
   have hcn : cnt (eE E1) (i + 1) = cnt (eE E1) i + if e.1.2.2.1.isSome then 1 else 0 := by
    rw [cnt, show tC (eE E1) i = e.1.2.2.1 by simp only [tC, hi']]
   rw [hw, zea, hcn];have hT : tT (eE E1) i = e.1.1 := by simp only [tT, hi']
   cases x.dst with
   | none => simp only [St.put, Nat.add_assoc]
   | some y => simp only [St.put, hT, Nat.add_assoc]
  have hfp : tF4 E i ++ [(e.1.2.2.2, zdC e.1.2.1, e.2)] = tF4 E1 (i + 1) := by
   have hc1 : tF4 E i = tF4 E1 i := List.map_congr_left fun j hj => by
    have := h1 j (List.mem_range.1 hj);simp only [eE, tR, tW, this]
   rw [hc1];simp only [tF4, List.range_succ, List.map_append, List.map_cons, List.map_nil];rw [show tR (eE E1) i = e.1.2.2.2 by simp only [tR, hi'], show tW (eE E1) i = e.1.2.1 by simp only [tW, hi'], hi]
  rw [zbP, hfp] at hc;obtain ⟨E', g1, g2, g3⟩ := zm9 l tl (i + 1) E1 hr (fun j => by have := ht (j + 1); rw [show i + 1 + j = i + (j + 1) by omega, <- this]; simp) hc;refine ⟨E', fun j hj => by rw [g1 j (by omega), h1 j hj], fun j o hj ho => ?_, ?_⟩
  ·rcases Nat.lt_or_ge i j with h' | h'
   ·exact g2 j o h' ho
   ·obtain rfl : i = j := by omega
    rw [hxi] at ho;cases ho;have hEi : E' i = e := by rw [g1 i (by omega), hi]
    have hEi' : eE E' i = e.1 := by simp only [eE, hEi]
    have hst : stE ops s0 (eE E') i = stE ops s0 (eE E) i := zf4 fun j hj => by simp only [eE]; rw [g1 j (by omega), <- h1 j hj]
    refine ⟨by rw [hdst.1] at hp; exact hp, ?_, fun y hy => ?_⟩
    ·rw [hst];simp only [tT, tW, tC, tR, hEi, hEi'];unfold Op4 at hv;by_cases c2 : e.2 = 2
     ·rw [if_pos c2] at hv ⊢;exact hv
     ·rw [if_neg c2] at hv ⊢;by_cases c1 : e.2 = 1
      ·rw [if_pos c1] at hv ⊢;obtain ⟨v1, v2, v3⟩ := hv;refine ⟨?_, by rw [<- hdst.2]; exact v2, v3⟩;unfold zcy at hx;split at hx
       ·rename_i hg; exact hg
       ·split at hx
        ·simp at hx; subst hx; cases v1
        ·cases hx
      ·rw [if_neg c1] at hv ⊢;obtain ⟨v0, hv⟩ := hv;refine ⟨v0, ?_⟩;unfold zcy at hx;unfold zus;unfold zvJ at hv;split at hx
       ·rename_i hg;simp at hx;subst hx
        try rw [hg]
        exact hv
       ·rename_i q want hg;split at hx
        ·rename_i t ht';simp at hx;subst hx
         try rw [hg]
         exact ⟨t, ht', hv⟩
        ·cases hx
    ·have : tC (eE E') i = e.1.2.2.1 := by simp only [tC, hEi']
     rw [this] at hy;have := hnx y hy;rw [this, zgm (eE E') (eE E) i fun j hj => by simp only [eE]; rw [g1 j (by omega), <- h1 j hj]]
     try rfl
  ·rw [show i + (x :: tl).length = i + 1 + tl.length by simp; omega];exact g3
def zr7 (ops : List Oper) (fp : Fp4) : Bool :=
 okP ops (fp.map fun p => (p.1, p.2.1)) &&
 (List.range ops.length).all fun j => ((fp.getD j ([], [], 0)).2.2 != 2 || (List.range ops.length).any fun p => (fp.getD p ([], [], 0)).2.2 == 1 && zey ops ops.length p j) &&
   ((fp.getD j ([], [], 0)).2.2 != 1 || (List.range ops.length).all fun i => (fp.getD i ([], [], 0)).2.1.isEmpty || zey ops ops.length i j || zey ops ops.length j i)
theorem zrO {P Γ s} {R0 : Exit -> St -> Prop} {l : List Oper} (hord : zij l = true) (hn0 : Γ.n0 <= s.next)
  (h : ∀ (C : Fp4 -> Prop) (k : St -> Prop), (∀ fp, zr7 l fp = true -> C fp) -> (∀ s', R0 .normal s' -> k s') -> match zaW l.toArray l with | some l' => HD4 P Γ s.next l' s [] C k | none => False) :
  VA P Γ l s R0 := by
 have := h (fun fp => zr7 l fp = true) _ (fun _ h => h) fun _ h => h;split at this
 ·rename_i l' hl;have h0 : stE l s (eE fun _ => default) 0 = s := by
   have hnone : ∀ (l : List Oper) (i : Nat) (e : List (Nat × D)), zfe (tT (eE fun _ => default)) (fun j => decide (j < 0)) l i e = e := by
    intro l
    induction l with
    | nil => intro i e; rfl
    | cons o l ih => intro i e; exact ih (i + 1) e
   simp only [stE, hnone]
   try rfl
  have hc := this s (.refl s);rw [<- h0] at hc;obtain ⟨E, _, h2, hok, hfin⟩ := zm9 l' l 0 (fun _ => default) hl (fun j => by rw [Nat.zero_add]) hc;rw [Nat.zero_add] at hok hfin;simp only [zr7, Bool.and_eq_true] at hok;obtain ⟨hok1, hok2⟩ := hok;have hlen4 : ∀ i, i < l.length -> (tF4 E l.length).getD i ([], [], 0) = (tR (eE E) i, zdC (tW (eE E) i), (E i).2) := fun i hi => by
   simp [tF4, hi]
  have hlen : ∀ i, i < l.length -> ((tF4 E l.length).map fun p => (p.1, p.2.1)).getD i ([], []) = (tR (eE E) i, zdC (tW (eE E) i)) := fun i hi => by
   simp [tF4, hi]
  have mono : ∀ i j, i <= j -> cnt (eE E) i <= cnt (eE E) j := fun i j hij => by
   induction hij with
   | refl => exact Nat.le_refl _
   | step _ ih => simp only [cnt]; omega
  have hcr : ∀ i x, i < l.length -> tC (eE E) i = some x -> x = s.next + cnt (eE E) i /\ cnt (eE E) (i + 1) = cnt (eE E) i + 1 := fun i x hi hx => by
   have := (h2 i _ (Nat.zero_le _) (List.getElem?_eq_getElem hi)).2.2 x hx;exact ⟨this, by simp only [cnt, hx]; rfl⟩
  let cr : Nat -> Option Nat := fun i => if i < l.length then tC (eE E) i else none
  let kd : Nat -> Nat := fun i => if i < l.length then (E i).2 else 0
  let W : Nat -> Wr := fun i => if i < l.length then tW (eE E) i else []
  have hWe : ∀ i, i < l.length -> W i = tW (eE E) i := fun i hi => by simp only [W]; rw [if_pos hi]
  refine zrP (T := tT (eE E)) (W := W) (cr := cr) (R := tR (eE E)) (kd := kd) (M := s.next + cnt (eE E) l.length) hord hn0 (by omega) (fun i x hx => ?_) (fun i j x hi hj => ?_) (fun i j hij hj hb => ?_) (fun i hk => ?_) (fun p i hp hi hw => ?_) (fun i o ho => ?_) (fun hnk => ?_)
  ·simp only [cr] at hx;split at hx
   ·rename_i hi;obtain ⟨e1, e2⟩ := hcr i x hi hx;have := mono (i + 1) l.length hi;omega
   ·cases hx
  ·simp only [cr] at hi hj;split at hi
   ·rename_i hil;split at hj
    ·rename_i hjl;obtain ⟨e1, e2⟩ := hcr i x hil hi;obtain ⟨e3, e4⟩ := hcr j x hjl hj;rcases Nat.lt_trichotomy i j with hlt | hlt | hlt
     ·have := mono (i + 1) j hlt;omega
     ·exact hlt
     ·have := mono (j + 1) i hlt;omega
    ·cases hj
   ·cases hi
  ·have := (List.all_eq_true.1 ((List.all_eq_true.1 hok1) j (List.mem_range.2 hj))) i (List.mem_range.2 hij);rw [hb, hlen i (by omega), hlen j hj] at this;simp only [Bool.false_or, Bool.and_eq_true] at this;rw [hWe i (by omega), hWe j hj];refine ⟨fun y hy => ?_, fun y hy => zgj this.2 y hy⟩;have := zgj this.1 y hy;rw [List.mem_append, not_or] at this;exact this
  ·simp only [kd] at hk;split at hk
   ·rename_i hi;obtain ⟨_, g2, _⟩ := h2 i _ (Nat.zero_le _) (List.getElem?_eq_getElem hi);have hci : cr i = tC (eE E) i := by simp only [cr]; rw [if_pos hi]
    rw [hWe i hi, hci];by_cases c2 : (E i).2 = 2
    ·rw [if_pos c2] at g2; exact g2
    ·rw [if_neg c2] at g2;by_cases c1 : (E i).2 = 1
     ·rw [if_pos c1] at g2; exact g2.2.2
     ·rw [if_neg c1] at g2; exact absurd g2.1 hk
   ·exact absurd rfl hk
  ·simp only [kd] at hp;split at hp
   ·rename_i hpl;have := (List.all_eq_true.1 hok2) p (List.mem_range.2 hpl);rw [Bool.and_eq_true, hlen4 p hpl] at this;have h3 := this.2;simp only [hp] at h3;have h4 : ((List.range l.length).all fun i => ((tF4 E l.length).getD i ([], [], 0)).2.1.isEmpty || zey l l.length i p || zey l l.length p i) = true := by simpa using h3
    have h5 := (List.all_eq_true.1 h4) i (List.mem_range.2 hi);rw [hlen4 i hi] at h5;simp only [Bool.or_eq_true] at h5;rcases h5 with (h5 | h5) | h5
    ·exfalso;apply hw;rw [hWe i hi];have : zdC (tW (eE E) i) = [] := by simpa using h5
     simpa [zdC] using this
    ·exact .inl h5
    ·exact .inr h5
   ·cases hp
  ·have hi := (List.getElem?_eq_some_iff.1 ho).1;obtain ⟨g1, g2, g3⟩ := h2 i o (Nat.zero_le _) ho;refine ⟨g1, ?_⟩;have hwl : ∀ S m, m <= l.length -> zeG W S m = zeG (tW (eE E)) S m := fun S m hm => zeV W (tW (eE E)) S m fun j hj => hWe j (by omega);have hst : stW l (tT (eE E)) W s (s.next + cnt (eE E) l.length) (fun j => decide (j < i)) = { stE l s (eE E) i with next := s.next + cnt (eE E) l.length } := by
    simp only [stW, stE];rw [hwl _ _ (Nat.le_refl _), zhs (tW (eE E)) i l.length (by omega)]
   have hcri : cr i = tC (eE E) i := by simp only [cr]; rw [if_pos hi]
   have hkdi : kd i = (E i).2 := by simp only [kd]; rw [if_pos hi]
   rw [hst, hcri, hkdi, hWe i hi];have opo : ∀ x, opd { stE l s (eE E) i with next := s.next + cnt (eE E) l.length } x = opd (stE l s (eE E) i) x := fun x => by cases x <;> rfl
   have eqo : ∀ (op : Op) (r : D -> Prop), valD P { stE l s (eE E) i with next := s.next + cnt (eE E) l.length } op r = valD P (stE l s (eE E) i) op r := fun op r => ziA rfl fun x _ => by cases x <;> rfl
   have ero : ∀ (op : Op), zbi { stE l s (eE E) i with next := s.next + cnt (eE E) l.length } op = zbi (stE l s (eE E) i) op := fun op => by
    have e : opd { stE l s (eE E) i with next := s.next + cnt (eE E) l.length } = opd (stE l s (eE E) i) := funext fun x => by cases x <;> rfl
    unfold zbi zbb zbW;rw [e]
   have efo : ∀ (op : Op) (r : ERes -> Prop), effD P { stE l s (eE E) i with next := s.next + cnt (eE E) l.length } op r = effD P (stE l s (eE E) i) op r := fun op r =>
    propext ⟨zew (fun _ _ => rfl) fun x _ => by cases x <;> rfl, zew (fun _ _ => rfl) fun x _ => by cases x <;> rfl⟩
   have hle : (stE l s (eE E) i).next <= s.next + cnt (eE E) l.length := by
    have := mono i l.length (by omega);simp only [stE]; omega
   have cao : ∀ (op : Op) (d : D) (W : Wr) (R : List Nat), ztF P s.next (stE l s (eE E) i) op d W R -> ztF P s.next { stE l s (eE E) i with next := s.next + cnt (eE E) l.length } op d W R :=
    fun op d W R ⟨fop, args, f, caps, O, O', L, q1, q2, q3, q4, q5, q6, q6b, q7, q8, q9, q10⟩ => ⟨fop, args, f, caps, O, O', L, q1, by rw [opo]; exact q2, q3, q4, q5, q6, q6b, q7, q8, q9, fun nx hnx => by
     rw [List.map_congr_left fun x _ => opo x];exact q10 nx (Nat.le_trans hle hnx)⟩
   have c1x : ∀ (op : Op) (dst : Option Tmp) (d : D) (W : Wr) (cr : Option Nat) (R : List Nat), ztu P s.next (stE l s (eE E) i) op dst d W cr R -> ztu P s.next { stE l s (eE E) i with next := s.next + cnt (eE E) l.length } op dst d W cr R :=
    fun op dst d W cr R h => by
     rcases h with h | ⟨h, hc⟩ | ⟨fop, args, f, caps, O, e, nb, x0, q1, q2, q3, q4, q5, q6, q7, q8⟩
     ·left;unfold Op1 at h ⊢;simp only [eqo, ero, efo];exact h
     ·exact .inr (.inl ⟨cao _ _ _ _ h, hc⟩)
     ·exact .inr (.inr ⟨fop, args, f, caps, O, e, nb, x0, q1, by rw [opo]; exact q2, q3, q4, q5, q6, q7, fun nx hnx => by
       rw [List.map_congr_left fun x _ => opo x];exact q8 nx (Nat.le_trans hle hnx)⟩)
   by_cases k2 : (E i).2 = 2
   ·rw [if_pos k2];have := (List.all_eq_true.1 hok2) i (List.mem_range.2 hi);rw [Bool.and_eq_true, hlen4 i hi] at this;have h3 := this.1;simp only [k2] at h3;have h4 : ((List.range l.length).any fun p => ((tF4 E l.length).getD p ([], [], 0)).2.2 == 1 && zey l l.length p i) = true := by simpa using h3
    obtain ⟨p, hp, h5⟩ := List.any_eq_true.1 h4;have hpl := List.mem_range.1 hp;rw [hlen4 p hpl, Bool.and_eq_true] at h5;exact ⟨p, by simp only [kd]; rw [if_pos hpl]; simpa using h5.1, hpl, h5.2⟩
   ·rw [if_neg k2] at g2 ⊢;by_cases k1 : (E i).2 = 1
    ·rw [if_pos k1] at g2 ⊢;refine ⟨g2.1, fun s' a1 a2 a3 a4 => g2.2.1 s' a1 a2 (fun x hx => by rw [a3 x hx, opo]) (Nat.le_trans hle a4)⟩
    ·rw [if_neg k1] at g2 ⊢;obtain ⟨_, g2⟩ := g2;unfold zus at g2 ⊢;split
     ·rename_i hg; rw [hg] at g2; exact c1x _ _ _ _ _ _ g2
     ·rename_i j want hg;rw [hg] at g2;obtain ⟨t, ht, g2⟩ := g2;refine ⟨t, ht, ?_⟩;rcases g2 with ⟨b, hb, g2⟩ | g2
      ·refine .inl ⟨b, hb, ?_⟩;split
       ·rename_i hbw; rw [if_pos hbw] at g2; exact c1x _ _ _ _ _ _ g2
       ·rename_i hbw; rw [if_neg hbw] at g2; exact g2
      ·exact .inr g2
  ·obtain ⟨s', h3, h4⟩ := hfin fun p hp => by
    obtain ⟨i, hi, rfl⟩ := List.mem_map.1 hp;have hil := List.mem_range.1 hi;have := hnk i hil;simp only [kd] at this;rw [if_pos hil] at this;exact this
   refine ⟨s', St.Eqo.trans (b := stE l s (eE E) l.length) ⟨rfl, fun x => ?_, rfl, fun x => ?_⟩ h3, h4⟩
   ·simp only [stW, stE];rw [zeV W (tW (eE E)) (fun _ => true) l.length fun j hj => hWe j hj]
   ·simp only [stW, stE];exact zc7 (tT (eE E)) _ _ x l 0 s.env s.env rfl fun j o hj _ => by
     have := (List.getElem?_eq_some_iff.1 hj).1;simp [this]
 ·exact this.elim
theorem ztm {P Γ s} {Q : Exit -> St -> Prop} {kt : Kt} {id : Nat} {l : List Oper} (hm : P.follows .mixedOrders = true) (hord : zij l = true) (hn0 : Γ.n0 <= s.next)
  (h : ∀ (C : Fp4 -> Prop) (k : St -> Prop), (∀ fp, zr7 l fp = true -> C fp) -> (∀ s', za3 P Γ Q kt .normal s' -> k s') -> match zaW l.toArray l with | some l' => HD4 P Γ s.next l' s [] C k | none => False) :
  V P Γ (.region id l.toArray true) s (za3 P Γ Q kt) := fun K a w hin hs => by
 refine wp_region_any hm ?_;exact zrO (R0 := za3 P Γ Q kt) hord hn0 h K a w hin hs
end Go.VL
namespace Go.VL
open Go
def zky (ids : List Nat) (nx k : Nat) : Nat := match ids[k]? with | some x => x | none => nx + (k - ids.length)
theorem zqB {ids : List Nat} {nx : Nat} (hd : ids.Nodup) (hlt : ∀ x ∈ ids, x < nx) {a b : Nat} (h : zky ids nx a = zky ids nx b) : a = b := by
 unfold zky at h;rcases ha : ids[a]? with _ | x <;> rcases hb : ids[b]? with _ | y <;> rw [ha, hb] at h <;> simp only at h
 ·have := List.getElem?_eq_none_iff.1 ha;have := List.getElem?_eq_none_iff.1 hb;omega
 ·have := hlt y (List.mem_of_getElem? hb);omega
 ·have := hlt x (List.mem_of_getElem? ha);omega
 ·obtain ⟨h1, h2⟩ := List.getElem?_eq_some_iff.1 ha;obtain ⟨h3, h4⟩ := List.getElem?_eq_some_iff.1 hb;rw [List.nodup_iff_pairwise_ne, List.pairwise_iff_getElem] at hd;rcases Nat.lt_trichotomy a b with hlt' | hlt' | hlt'
  ·exact absurd (h2.trans (h.trans h4.symm)) (hd a b h1 h3 hlt')
  ·exact hlt'
  ·exact absurd (h2.trans (h.trans h4.symm)).symm (hd b a h3 h1 hlt')
inductive KL (ids : List Nat) (nx : Nat) : List Nat -> List Nat -> Prop
 | nil : KL ids nx [] []
 | cons (k : Nat) {x l l0} (h : zky ids nx k = x) (t : KL ids nx l l0) : KL ids nx (x :: l) (k :: l0)
theorem KL.map {ids nx l l0} (h : KL ids nx l l0) : l = l0.map (zky ids nx) := by
 induction h with
 | nil => rfl
 | cons k h t ih => rw [List.map_cons, h, <- ih]
inductive KF (ids : List Nat) (nx : Nat) : Fp4 -> Fp4 -> Prop
 | nil : KF ids nx [] []
 | cons {a a0 b b0 k fp fp0} (h1 : KL ids nx a a0) (h2 : KL ids nx b b0) (h3 : KF ids nx fp fp0) : KF ids nx ((a, b, k) :: fp) ((a0, b0, k) :: fp0)
theorem KF.map {ids nx l l0} (h : KF ids nx l l0) : l = l0.map fun p => (p.1.map (zky ids nx), p.2.1.map (zky ids nx), p.2.2) := by
 induction h with
 | nil => rfl
 | cons h1 h2 _ ih => rw [List.map_cons, <- h1.map, <- h2.map, <- ih]
theorem zpG {ρ : Nat -> Nat} (hρ : ∀ a b, ρ a = ρ b -> a = b) (a b : List Nat) : zn6 (a.map ρ) (b.map ρ) = zn6 a b := by
 unfold zn6;rw [List.all_map]
 congr 1
 funext y;simp only [Function.comp]
 congr 1
 rw [Bool.eq_iff_iff];simp only [List.contains_eq_mem, decide_eq_true_eq, List.mem_map];exact ⟨fun ⟨z, h1, h2⟩ => hρ _ _ h2 ▸ h1, fun h => ⟨y, h, rfl⟩⟩
theorem zdI {ops : List Oper} {fp : Fp4} (ids : List Nat) (nx : Nat) (hd : ids.Nodup) (hlt : ∀ x ∈ ids, x < nx) (h : ∃ fp0, KF ids nx fp fp0 /\ zr7 ops fp0 = true) : zr7 ops fp = true := by
 obtain ⟨fp0, hk, h⟩ := h;have hr := hk.map;subst hr;have hρ : ∀ a b, zky ids nx a = zky ids nx b -> a = b := fun a b => zqB hd hlt;have g4 : ∀ i, (fp0.map fun p => (p.1.map (zky ids nx), p.2.1.map (zky ids nx), p.2.2)).getD i ([], [], 0) = (((fp0.getD i ([], [], 0)).1.map (zky ids nx), (fp0.getD i ([], [], 0)).2.1.map (zky ids nx), (fp0.getD i ([], [], 0)).2.2)) := fun i => by
  simp only [List.getD_eq_getElem?_getD, List.getElem?_map];cases fp0[i]? <;> rfl
 have g2 : ∀ i, ((fp0.map fun p => (p.1.map (zky ids nx), p.2.1.map (zky ids nx), p.2.2)).map fun p => (p.1, p.2.1)).getD i ([], []) =
   ((((fp0.map fun p => (p.1, p.2.1)).getD i ([], [])).1.map (zky ids nx), ((fp0.map fun p => (p.1, p.2.1)).getD i ([], [])).2.map (zky ids nx))) := fun i => by
  simp only [List.getD_eq_getElem?_getD, List.getElem?_map];cases fp0[i]? <;> rfl
 unfold zr7 okP at h ⊢;simp only [g4, g2, <- List.map_append, zpG hρ, List.isEmpty_map] at h ⊢;exact h
theorem zkf {P : Program} {Γ : Ctx} {N : Nat} {s : St} {dst : Option Tmp} {rest fp C k} {fop : Operand} {args : Array Operand} {ts : Array TypeId} {f caps} {ds : List D} {d : D} {j : Nat} {ob ob' : Ob}
  (hret : ∀ nx, s.next <= nx -> RetX P f ds [(j, ob)] nx fun r o n => r = .val d /\ o = [(j, ob')] /\ n = nx)
  (hj : getK s.obs j = some ob) (hf : zag (opd s fop) = some (f, caps)) (hc : zae P f = true) (hds : args.toList.map (opd s) ++ caps = ds)
  (hu : d.under N = true /\ ob'.under N = true) (hp : zaq dst s)
  (h : HD4 P Γ N rest (({ s with obs := zai [(j, some ob')] s.obs } : St).put dst d) (fp ++ [([j], [j], 0)]) C k) :
  HD4 P Γ N (⟨dst, .call { callee := .value fop, args, argTypes := ts }, none⟩ :: rest) s fp C k :=
 zrY [(j, ob)] [(j, ob')] (fun nx hnx => (hret nx hnx).mono fun r o n ⟨h1, h2, h3⟩ => ⟨h1, fun y => by rw [h2], h3⟩) hf hc hds rfl (by simpa using hj) (by simp) ⟨hu.1, by simpa using hu.2⟩ hp h
theorem zho {P : Program} {Γ : Ctx} {N : Nat} {s : St} {dst : Option Tmp} {rest fp C k} {fop : Operand} {args : Array Operand} {ts : Array TypeId} {f caps} {ds : List D} {j : Nat} {ob : Ob} {ch : List PanicEntry} {p : Ob -> Prop}
  (hret : ∀ nx, s.next <= nx -> RetX P f ds [(j, ob)] nx fun r o n => r = .pan ch /\ (∃ ob', p ob' /\ o = [(j, ob')]) /\ n = nx)
  (hj : getK s.obs j = some ob) (hf : zag (opd s fop) = some (f, caps)) (hc : zae P f = true) (hds : args.toList.map (opd s) ++ caps = ds) (hp : zaq dst s)
  (hx : ∀ env ob' n, s.next <= n -> p ob' -> ∃ s2, Wk Γ { n := s.n, env := env, obs := del s.obs j ++ [(j, ob')], next := n } s2 /\ Γ.pan ch s2)
  (h : HD4 P Γ N rest (s.put dst .any) (fp ++ [([], [], 1)]) C k) :
  HD4 P Γ N (⟨dst, .call { callee := .value fop, args, argTypes := ts }, none⟩ :: rest) s fp C k := by
 have hfil : (s.obs.filter fun p => !(([(j, ob)] : List (Nat × Ob)).map (·.1)).contains p.1) = del s.obs j := by
  unfold del
  congr 1
  funext p;simp only [List.map_cons, List.map_nil, List.contains_cons, List.contains_nil, Bool.or_false]
 refine zrW (post := fun r o _ => r = .pan ch /\ ∃ ob', p ob' /\ o = [(j, ob')]) [(j, ob)] (fun nx hnx => (hret nx hnx).mono fun r o n ⟨h1, h2, _⟩ => ⟨h1, h2⟩) (fun d o n h => by cases h.1) hf hc hds (by simpa using hj) hp (fun env ch' o n hn h => ?_) h;obtain ⟨h1, ob', h2, rfl⟩ := h;cases h1;rw [hfil];exact hx env ob' n hn h2
theorem zgt {P Γ N s dst op g rest fp C k} (_ : (fp.any fun p => p.2.2 == 1) = true) (hp : zaq dst s) (h : HD4 P Γ N rest (s.put dst .any) (fp ++ [([], [], 2)]) C k) : HD4 P Γ N (⟨dst, op, g⟩ :: rest) s fp C k := zrX hp h
theorem FinOK.cut {n0 : Nat} {post : D -> List (Nat × Ob) -> Nat -> Prop} {s : St} {d : D} (obs : List (Nat × Ob)) (N : Nat) (ho : ∀ p ∈ obs, getK s.obs p.1 = some p.2 /\ p.1 < N /\ p.2.under N = true) (hd : d.under N = true) (hn : n0 <= N)
  (h : post d obs N) : FinOK n0 post s d :=
 .inl ⟨{ s with env := [], obs := obs, next := N }, fun i => i, d, ⟨rfl, fun x d' hx => by simp [getK] at hx, fun x d' hx => by simp [getK] at hx,
  fun i ob hi => ⟨(ho _ (zfU hi)).2.1, ob, (ho _ (zfU hi)).1, Ob.le_id ob, (ho _ (zfU hi)).2.2⟩, fun _ _ _ _ _ _ h => h, fun i hi => ⟨rfl, Nat.lt_of_lt_of_le hi hn⟩⟩, D.le_id d, hd, hn, h⟩
def zuQ : D -> Bool
 | .vec .. => true
 | _ => false
theorem zbX {P : Program} {Γ : Ctx} {s : St} {k : St -> Prop} {dst : Option Tmp} {fop : Operand} {args : List Operand} (_ : (args.map (opd s)).any zuQ = true) (h : CallP P Γ fop args dst (frzN 1 s) k) : CallP P Γ fop args dst s k :=
 zr0 (Wk.frzN 1 _) h
end Go.VL
namespace Go.VL
open Go
def zdP {α : Type} (obs : List (Nat × α)) : List Nat -> List (Nat × α)
 | [] => obs
 | i :: l => zdP (del obs i) l
theorem zfZ {α : Type} : ∀ (l : List Nat) (obs : List (Nat × α)), zdP obs l = obs.filter fun p => !l.contains p.1
 | [], obs => by rw [zdP]; exact (List.filter_eq_self.2 (by simp)).symm
 | i :: l, obs => by
  rw [zdP, zfZ l, del, List.filter_filter]
  congr 1
  funext p;simp only [List.contains_cons];cases p.1 == i <;> cases l.contains p.1 <;> rfl
theorem zm7 {obs O : List (Nat × Ob)} (hO : ∀ p ∈ O, getK obs p.1 = some p.2) (i : Nat) : getK obs i = getK (zdP obs (O.map (·.1)) ++ O) i := by
 rw [zfZ, zab, zdf];by_cases hy : (O.map (·.1)).contains i = true
 ·rw [if_pos hy];obtain ⟨x, hx⟩ := zdv (l := O) (y := i) (by simpa using hy);rw [hx, hO _ (zft hx)]
 ·rw [if_neg hy, zcw O i (by simpa using hy)];cases getK obs i <;> rfl
theorem zlh {obs O : List (Nat × Ob)} (i : Nat) (ob : Ob) (h : getK (zdP obs (O.map (·.1))) i = some ob) : getK O i = none := by
 rw [zfZ, zdf] at h;by_cases hc : (O.map (·.1)).contains i = true
 ·rw [if_pos hc] at h; cases h
 ·exact zcw O i (by simpa using hc)
theorem CallP.okL {P : Program} {Γ : Ctx} {s : St} {k : St -> Prop} {dst : Option Tmp} {fop : Operand} {args : List Operand} {f caps} {ds : List D} {O O' : List (Nat × Ob)} {d : D} {N : Nat}
  (hret : RetX P f ds O s.next fun r o n => r = .val d /\ o = O' /\ n = N) (hO : ∀ p ∈ O, getK s.obs p.1 = some p.2)
  (hf : zag (opd s fop) = some (f, caps)) (hc : zae P f = true) (hds : args.map (opd s) ++ caps = ds) (hp : zaq dst s)
  (hk : k (({ s with obs := zdP s.obs (O.map (·.1)) ++ O', next := N } : St).put dst d)) : CallP P Γ fop args dst s k :=
 CallP.xF (zdP s.obs (O.map (·.1))) O hret (zm7 hO) zlh hf hc hds hp (fun d' o1 nx' _ ⟨h1, h2, h3⟩ => by cases h1; subst h2; subst h3; exact hk) (fun ch o1 nx' _ ⟨h1, _⟩ => by cases h1)
theorem LeaveD.of {P : Program} {Γb : Ctx} {fn : Func} {post : Out -> List (Nat × Ob) -> Nat -> Prop} {g : FuncId} {caps : List D} {u : FrameMode} {s : St} (O : List (Nat × Ob)) {O' : List (Nat × Ob)} (hO : ∀ p ∈ O, getK s.obs p.1 = some p.2)
  (h : RetDf P g caps O s.next u fun u' o n => settle u' = .returning /\ n = s.next /\ o = O') (hk : EndW P Γb fn Γb.n0 (fun d o n => post (.val d) o n) .ret { s with obs := zdP s.obs (O.map (·.1)) ++ O', next := s.next }) :
  LeaveD P Γb fn post g caps u s :=
 ((h.frame (zdP s.obs (O.map (·.1))) zlh).congr (zm7 hO)).mono fun u' o n ⟨o1, ho, hs, hn, ho1⟩ => ⟨hs, by subst ho; subst ho1; subst hn; exact hk⟩
theorem nef {i nx : Nat} (h : i < nx) : ¬ i = nx /\ ¬ nx = i /\ (∀ k, ¬ i = nx + k) /\ ∀ k, ¬ nx + k = i := ⟨by omega, by omega, fun k => by omega, fun k => by omega⟩
end Go.VL
namespace Go.VL
open Go
open Go.ChangeShapes Go.WideShapes Go.ChangeAt Go.WideMaps Go.WideElems Go.RowKit
theorem zqY {H : Type} {enc : TypeId × Value -> H} {C : Checked} {os : Os} {f : FuncId} {fn : Func} {s : ChangeSpec} {conds : List PathCond} {apart fresh handsOn again : Bool} {tb : TypeId} {laid : List (String × DataW Unit)}
  (own : ownKnob C.prog.godebug = none) (started : os.Started) (noInit : C.prog.inits.idxOf? f = none) (hfn : C.prog.funcs[f]? = some fn)
  (witness : ∃ (w : World) (tape : Tape) (i : Input), w.os = os /\ (w.forCall tape i).Shaped C.prog /\ i.vars = [] /\ Input.okWide C.prog (w.forCall tape i) .any w.heap.size f i /\
    ((s.pre enc C.prog fn conds apart (w.forCall tape i).memory i.args /\ laidMetH C.prog laid (w.forCall tape i).memory) /\ sizedMet enc C.prog fn (OpenSpec.ofChange s) apart (w.forCall tape i).memory i.args) /\ (({} : Assume)).holds C.prog (lone (Frame.enter C.prog f i.args .normal) [] (w.forCall tape i)))
  (hl : laidOutB C.prog = true) (hseq : ziH C.prog = true) (hpar : (fn.params.toList.all fun t => C.prog.readableRec t && decide (t < C.prog.types.size)) = true)
  (hvars : s.vars = []) (hspec : ∀ ds : List (DataW H), ds.length = fn.params.size -> s.fn H ds = { results := [.lit (.bool true)], args := ds })
  (hres : fn.resultTypes = #[tb]) (htb : C.prog.underlying tb = some .bool)
  (hfun : ∀ us : List U, zr1 C.prog fn.params.toList us -> Fun C.prog f (us.map .u) (· = .u (.bool true))) (hglob : ∀ W : World, laidMetH C.prog laid W -> GlobIn (zkg W)) :
  ReturnsInHanded {} C os f .any (fun w args => (s.pre enc C.prog fn conds apart w args /\ laidMetH C.prog laid w) /\ sizedMet enc C.prog fn (OpenSpec.ofChange s) apart w args) (s.post enc C.prog fn apart fresh handsOn again) := by
 refine returnsInHanded_of_change_and (X := fun w _ => laidMetH C.prog laid w) (fun _ _ _ hh h => h.of_heap hh) own started noInit hfn witness ?_;intro W base args ds gs before hval hW _ _ hL _;have hpar' : ∀ t ∈ fn.params.toList, C.prog.readableRec t = true /\ t < C.prog.types.size := by
  intro t ht;have := List.all_eq_true.1 hpar t ht;simpa using this
 have hW' := hW;obtain ⟨p, q, hA, hV, rfl, hfz, hnd⟩ := hW;rw [hvars] at hV;obtain ⟨rfl, rfl⟩ := trodVars_none hV;have hlt : ∀ x ∈ p, x.block < W.heap.size := fun x hx => hW'.lt x (by simp [hx]);obtain ⟨us, h1, h2, _⟩ := znd hseq hA (fun t ht => (hpar' t ht).2) (fun j t v ht hv => hval j t v (by simpa using ht) (by simpa using hv));refine (zlp (hfun us h1) (hglob W hL) h2).mono ?_;rintro e W' ⟨rfl, hb⟩;have hdl : ds.length = fn.params.size := by
  have : ∀ {ts : List TypeId} {vs : List Value} {ds : List (DataW H)} {p : List MemPlace}, DataW.TrodAll enc C.prog W 0 (fun _ => true) true ts vs ds p -> ds.length = ts.length := by
   intro ts
   induction ts with
   | nil => intro vs ds p h; cases vs <;> cases ds <;> simp_all [DataW.TrodAll]
   | cons t ts ih =>
    intro vs ds p h;cases vs <;> cases ds <;> simp only [DataW.TrodAll] at h;obtain ⟨p, q, _, h2, _⟩ := h;simp [ih h2]
  simpa using this hA
 have hs := hspec ds hdl;refine ⟨_, rfl, znz (pa := p) (pv := []) hW' (fun b sp hd => ?_) (fun sp hsp => ?_) (fun sp _ => ?_) rfl hb (fun j t r ht hr => ?_)⟩
 ·rw [List.append_nil, hs, hres];exact trodAll_mk1 ⟨1, by simp [DataW.trod, Value.cells, htb]⟩
 ·rw [List.append_nil, hs];exact zf3 hl hb hpar' hA hlt fun x hx => hsp x (by simp [hx])
 ·rw [List.append_nil, hs, hvars]
  try rfl
 ·rw [hres] at ht hr;cases j with
  | zero =>
   simp at ht;subst ht;simp [Value.resultList] at hr;subst hr;simp [Value.okWide, htb, Cell.okWide, Cell.ok]
  | succ j => simp at ht
theorem zj8 {P : Program} {w : World} {n : String} {g : Nat} {t e : TypeId} {cs : Array Value} {L : List (List UInt8)} {fuel : Nat} {H : Type} {enc : TypeId × Value -> H} {base : Nat} {spare : Nat -> Bool} {held : Bool} {q : List MemPlace}
  (hg : P.globalNamed n = some g) (hv : w.var? P n = some cs) (ht : P.underlying t = some (.array L.length e)) (he : P.underlying e = some .string) (hc : P.cellsOf e = 1)
  (hd : DataW.trod enc P w base spare held fuel t cs.toList = some (.agg (L.map fun b => .lit (.string b)), q)) : ∀ (j : Nat) (b : List UInt8), L[j]? = some b -> w.cell? ⟨g, j, none⟩ = some (.string ⟨b.toArray⟩) := by
 intro j b hj;obtain ⟨xs, m1, rfl, hx1, hlen, hn3, hel⟩ := DataW.trod_array ht hd;have hjl := (List.getElem?_eq_some_iff.1 hj).1;have h := hel j hjl;rw [hc, Nat.mul_one] at h;simp only [Prod.mk.injEq, DataW.agg.injEq] at hx1;obtain ⟨x, hx⟩ : ∃ x, xs[j]? = some x := ⟨_, List.getElem?_eq_getElem (by omega)⟩;rw [hx] at h;obtain ⟨s, h1, h2, _⟩ := DataW.trod_string he h;have h3 : (L.map fun b => (DataW.lit (.string b) : DataW H))[j]? = (xs.map (·.1))[j]? := by rw [hx1.1]
 rw [List.getElem?_map, List.getElem?_map, hj, hx, h2] at h3;simp only [Option.map_some, Option.some.injEq, DataW.lit.injEq, Lit.string.injEq] at h3;have h4 : (cs.toList.drop j)[0]? = some (.string s) := by
  have : ((cs.toList.drop j).take 1)[0]? = some (.string s) := by rw [h1]; rfl
  simpa [List.getElem?_take] using this
 rw [List.getElem?_drop, Nat.add_zero] at h4;rw [World.var?_cell hg hv j];rw [Array.getElem?_toList] at h4;rw [h4, h3]
end Go.VL
