/- The calculus of values (VLQ, VLR). -/
import Derived.Test.YtdkadmchdocjbaaVLP
set_option linter.all false
set_option maxRecDepth 100000
set_option maxHeartbeats 8000000
/- The calculus of values: statements of any order in which maps are filled. -/
namespace Go.VL
open Go

/-- An entry put into a map. -/
abbrev InsE := Nat × Key × List D
def putE (o : List (Nat × Ob)) (e : InsE) : List (Nat × Ob) := match getK o e.1 with | some (.map kk ag es) => setOb o e.1 (.map kk ag (updK es e.2.1 e.2.2)) | _ => o
def insL : List InsE → List (Nat × Ob) → List (Nat × Ob)
  | [], o => o
  | e :: L, o => insL L (putE o e)
def obE (e : InsE) (x : Option Ob) : Option Ob := match x with | some (.map kk ag es) => some (.map kk ag (updK es e.2.1 e.2.2)) | x => x
def insO : List InsE → Nat → Option Ob → Option Ob
  | [], _, x => x
  | e :: L, z, x => insO L z (if z = e.1 then obE e x else x)
theorem fm_congr {α β : Type} {f g : α → Option β} : ∀ {l : List α}, (∀ x ∈ l, f x = g x) → l.filterMap f = l.filterMap g
  | [], _ => rfl
  | a :: l, h => by rw [List.filterMap_cons, List.filterMap_cons, h a (by simp), fm_congr fun x hx => h x (by simp [hx])]
theorem getK_insL : ∀ (L : List InsE) (o : List (Nat × Ob)) (z : Nat), getK (insL L o) z = insO L z (getK o z)
  | [], _, _ => rfl
  | e :: L, o, z => by
    rw [insL, getK_insL L, insO]
    congr 1
    unfold putE obE
    by_cases hz : z = e.1
    · subst hz
      rw [if_pos rfl]
      cases hg : getK o e.1 with
      | none => exact hg
      | some ob => cases ob <;> simp [hg, getK_setOb, getK_cons]
    · rw [if_neg hz]
      cases hg : getK o e.1 with
      | none => rfl
      | some ob => cases ob <;> simp [getK_setOb, getK_cons, hz]
theorem insO_none : ∀ {L : List InsE} {z : Nat} {x : Option Ob}, (∀ e ∈ L, e.1 ≠ z) → insO L z x = x
  | [], _, _, _ => rfl
  | e :: L, z, x, h => by
    rw [insO, if_neg (fun q => h e (by simp) q.symm)]
    exact insO_none fun e he => h e (by simp [he])
theorem insO_append : ∀ (L : List InsE) (e : InsE) (z : Nat) (x : Option Ob), insO (L ++ [e]) z x = insO [e] z (insO L z x)
  | [], _, _, _ => rfl
  | a :: L, e, z, x => by rw [List.cons_append, insO, insO_append L e]; rfl
theorem insO_map : ∀ (L : List InsE) (z : Nat) (kk : KK) (ag : Bool) (es : List (Key × List D)), ∃ es', insO L z (some (.map kk ag es)) = some (.map kk ag es')
  | [], _, _, _, es => ⟨es, rfl⟩
  | e :: L, z, kk, ag, es => by
    rw [insO]
    split
    · exact insO_map L z kk ag _
    · exact insO_map L z kk ag es
/-- What is put into the map z. -/
def entZ (z : Nat) (L : List InsE) : List (Key × List D) := L.filterMap fun e => if e.1 = z then some (e.2.1, e.2.2) else none
theorem insO_nil {z : Nat} {kk : KK} {ag : Bool} : ∀ (L : List InsE) (es : List (Key × List D)), L.Pairwise (fun a b => a.1 = b.1 → a.2.1 ≠ b.2.1) → (∀ e ∈ L, e.1 = z → ∀ p ∈ es, p.1 ≠ e.2.1) → insO L z (some (.map kk ag es)) = some (.map kk ag (es ++ entZ z L))
  | [], es, _, _ => by simp [insO, entZ]
  | e :: L, es, hp, h => by
    rw [List.pairwise_cons] at hp
    rw [insO]
    by_cases hz : z = e.1
    · rw [if_pos hz]
      unfold obE
      simp only
      rw [updK_none (h e (by simp) hz.symm), insO_nil L _ hp.2 fun a ha haz p hp' => ?_]
      · simp [entZ, hz]
      · rcases List.mem_append.1 hp' with hp' | hp'
        · exact h a (by simp [ha]) haz p hp'
        · simp at hp'
          subst hp'
          exact hp.1 a ha (by rw [← hz, haz])
    · rw [if_neg hz, insO_nil L _ hp.2 fun a ha haz p hp' => h a (by simp [ha]) haz p hp']
      simp [entZ, Ne.symm hz]
def stX (ops : List Oper) (T : Nat → D) (W : Nat → Wr) (s : St) (M : Nat) (S : Nat → Bool) (L : List InsE) : St :=
  { stW ops T W s M S with obs := insL L (stW ops T W s M S).obs }
/-- This operation puts this entry into a map that was empty. -/
def InsOK (P : Program) (st : St) (op : Op) (e : InsE) : Prop :=
  ∃ t x ki v kk ag z ku, (op = .mapUpdate t x ki v ∨ op = .insert t x ki v) ∧ mapInf P t = some (kk, ag, z) ∧ opd st x = .mp e.1 ∧ opd st ki = .u ku ∧ keyU ku = some e.2.1 ∧ e.2.1.kk = kk ∧ valM ag (opd st v) = some e.2.2 ∧ getK st.obs e.1 = some (.map kk ag [])
theorem InsOK.base {P st op e} (h : InsOK P st op e) : ∃ kk ag, getK st.obs e.1 = some (.map kk ag []) := by
  obtain ⟨t, x, ki, v, kk, ag, z, ku, _, _, _, _, _, _, _, h⟩ := h
  exact ⟨kk, ag, h⟩
theorem Sat.permO {k own o o' w} (h : Sat k own o w) (e : ∀ z, getK o' z = getK o z ∨ ∃ kk ag es es', getK o z = some (.map kk ag es) ∧ getK o' z = some (.map kk ag es') ∧ es.Perm es') : Sat k own o' w := by
  have conv : ∀ z ob, getK o' z = some ob → ∃ ob0, getK o z = some ob0 := fun z ob hz => by
    rcases e z with h1 | ⟨kk, ag, es, es', h1, h2, h3⟩
    · exact ⟨ob, by rw [← h1]; exact hz⟩
    · exact ⟨_, h1⟩
  refine ⟨h.mem, fun i ob hi => ?_, fun i j x y g g' b hi hj => ?_⟩
  · rcases e i with h1 | ⟨kk, ag, es, es', h1, h2, h3⟩
    · exact h.ob i ob (by rw [← h1]; exact hi)
    · rw [h2] at hi
      cases hi
      obtain ⟨g, g1, g2, b, ents, clock, es0, g3, g4, g5, g6⟩ := h.ob i _ h1
      exact ⟨g, g1, g2, b, ents, clock, es0, g3, g4, g5.trans h3, g6⟩
  · obtain ⟨x', hx⟩ := conv i x hi
    obtain ⟨y', hy⟩ := conv j y hj
    exact h.apart i j x' y' g g' b hx hy
theorem pairwise_perm_ins {L L' : List InsE} (hp : L.Perm L') (h : L.Pairwise fun a b => a.1 = b.1 → a.2.1 ≠ b.2.1) : L'.Pairwise fun a b => a.1 = b.1 → a.2.1 ≠ b.2.1 :=
  hp.pairwise h fun q e => (q e.symm).symm
theorem Sat.permL {k own w} {L L' : List InsE} {o : List (Nat × Ob)} (h : Sat k own (insL L o) w) (hp : L.Perm L') (hd : L.Pairwise fun a b => a.1 = b.1 → a.2.1 ≠ b.2.1) (hb : ∀ e ∈ L, ∃ kk ag, getK o e.1 = some (.map kk ag [])) : Sat k own (insL L' o) w := by
  refine h.permO fun z => ?_
  rw [getK_insL, getK_insL]
  by_cases hz : ∃ e ∈ L, e.1 = z
  · obtain ⟨e, he, rfl⟩ := hz
    obtain ⟨kk, ag, hg⟩ := hb e he
    rw [hg, insO_nil L [] hd (by simp), insO_nil L' [] (pairwise_perm_ins hp hd) (by simp)]
    exact .inr ⟨kk, ag, _, _, rfl, rfl, by simpa [entZ] using hp.filterMap _⟩
  · have h1 : ∀ e ∈ L, e.1 ≠ z := fun e he q => hz ⟨e, he, q⟩
    rw [insO_none h1, insO_none fun e he => h1 e (hp.mem_iff.2 he)]
    exact .inl rfl
theorem mapUpd_keep {P : Program} {Γ : Ctx} {o : Oper} {s : St} {t : TypeId} {x i v : Operand} {m : Nat} {kk : KK} {ag : Bool} {z : List U} {ku : U} {ky : Key} {cells : List D} {es : List (Key × List D)} (ho : o.op = .mapUpdate t x i v ∨ o.op = .insert t x i v) (hd : o.dst = none)
    (hinf : mapInf P t = some (kk, ag, z)) (hx : opd s x = .mp m) (hi : opd s i = .u ku) (hg : getK s.obs m = some (.map kk ag es)) (hky : keyU ku = some ky) (hkk2 : ky.kk = kk) (hvm : valM ag (opd s v) = some cells) {K : Kr} {a : Act} {w : World} (hin : In Γ K w) (hs : Sim K Γ.own s a w) :
    ∃ w', (execOp a.eval o).run P w = .ok .skip w' ∧ In Γ K w' ∧ Sim K Γ.own { s with obs := setOb s.obs m (.map kk ag (updK es ky cells)) } (a.put o.dst undef) w' := by
  obtain ⟨kt, e, hu, hkk, _⟩ := mapInf_some hinf
  obtain ⟨b, c, ents, clock, es0, hh, hown, hheap, hpm, hm, hno⟩ := (hs.sat.ob m _ hg).map
  have hrx := opd_rep hs x
  rw [hx] at hrx
  obtain ⟨b', c', hh', hxv⟩ := rep_mp hrx
  rw [hh] at hh'
  cases hh'
  have hri := opd_rep hs i
  rw [hi] at hri
  have hiv : a.eval i = ky.val := by cases hri with | u _ _ hri => exact keyU_rep hky hri
  obtain ⟨ents', clock', hrun, hm'⟩ := mapUpd_run (w := w) hu hkk hkk2 hm hheap (valM_rep hvm (opd_rep hs v))
  have hrun' : (execOp a.eval o).run P w = .ok .skip (w.putMap b ents' clock') := by
    obtain ⟨dst, op, type, pos, after, guard⟩ := o
    simp only at ho
    rcases ho with rfl | rfl
    · simp [execOp, hxv, hiv, hrun]
    · simp [execOp, hxv, hiv, hrun]
  have hsame := MapKept.heap_set (o' := .map ents' clock') hheap
  have hin' : In Γ K (w.putMap b ents' clock') := hin.step (.refl K) (fun _ _ _ e => .inl e) rfl rfl rfl (by simp [World.putMap]) (fun b' hb' => hsame.2 b' fun e => hb' (by rw [e]; exact hown))
  refine ⟨_, hrun', hin', ?_⟩
  rw [hd]
  exact ⟨Sat.congr (Sat.set (h := (some b, c)) hs.sat hg hh (fun b' hb' => hsame.2 b' fun e => hb' (by rw [e])) (ob' := .map kk ag (updK es ky cells)) ⟨b, ents', clock', _, rfl, hsame.1, updK_perm hpm hm.once, hm'⟩) (getK_setOb _ _ _), hs.defers, hs.size, hs.env, hs.hdr⟩
theorem bef_lt {ops : List Oper} (hord : ordOK ops = true) : ∀ {n i j : Nat}, befB ops n i j = true → i < j
  | 0, _, _, h => by cases h
  | n + 1, i, j, h => by
    unfold befB at h
    split at h
    · rename_i o ho
      rw [List.any_eq_true] at h
      obtain ⟨p, hp, hpi⟩ := h
      have hlt := (ord_pred hord ho).1 p hp
      simp only [Bool.or_eq_true, beq_iff_eq] at hpi
      rcases hpi with rfl | hpi
      · exact hlt
      · have := bef_lt hord hpi; omega
    · cases h
theorem filterMap_skip {n i : Nat} {N : Nat → Option InsE} {S : Nat → Bool} (h : N i = none) : ((List.range n).filterMap fun j => if (S j || j == i) = true then N j else none) = (List.range n).filterMap fun j => if S j = true then N j else none :=
  fm_congr fun j _ => by
    by_cases hj : j = i
    · subst hj; simp [h]
    · simp [hj]
theorem filterMap_put {n i : Nat} {N : Nat → Option InsE} {S : Nat → Bool} {L : List InsE} {e : InsE} (hp : L.Perm ((List.range n).filterMap fun j => if S j = true then N j else none)) (hi : i < n) (hS : S i = false) (h : N i = some e) :
    (L ++ [e]).Perm ((List.range n).filterMap fun j => if (S j || j == i) = true then N j else none) := by
  have : ∀ (l : List Nat), l.Nodup → i ∈ l → ((l.filterMap fun j => if S j = true then N j else none) ++ [e]).Perm (l.filterMap fun j => if (S j || j == i) = true then N j else none) := by
    intro l
    induction l with
    | nil => intro _ hm; cases hm
    | cons a l ih =>
      intro hnd hm
      rw [List.nodup_cons] at hnd
      by_cases ha : a = i
      · subst ha
        have hsame : (l.filterMap fun j => if (S j || j == a) = true then N j else none) = l.filterMap fun j => if S j = true then N j else none :=
          fm_congr fun j hj => by
            have : j ≠ a := fun q => hnd.1 (q ▸ hj)
            simp [this]
        simp only [List.filterMap_cons, hS, Bool.false_eq_true, if_false, Bool.false_or, beq_self_eq_true, if_true, h]
        rw [hsame]
        exact List.perm_append_comm
      · have hm' : i ∈ l := by rcases List.mem_cons.1 hm with rfl | hm; exact absurd rfl ha; exact hm
        have := ih hnd.2 hm'
        have hai : (a == i) = false := by simp [ha]
        simp only [List.filterMap_cons, hai, Bool.or_false]
        split
        · exact this
        · exact this.cons _
  exact (hp.append_right [e]).trans (this _ List.nodup_range (List.mem_range.2 hi))

set_option maxHeartbeats 4000000 in
theorem V_draw2N {P Γ} {Q : Exit → St → Prop} {kt : Kt} {id : Nat} {ops : List Oper} {T : Nat → D} {W : Nat → Wr} {cr : Nat → Option Nat} {R : Nat → List Nat} {N : Nat → Option InsE} {s : St} {M : Nat}
    (hm : P.follows .mixedOrders = true) (hord : ordOK ops = true) (hn0 : Γ.n0 ≤ s.next) (hM : s.next ≤ M)
    (hcr : ∀ i x, cr i = some x → s.next ≤ x ∧ x < M) (hcr1 : ∀ i j x, cr i = some x → cr j = some x → i = j)
    (hpair : ∀ i j, i < j → j < ops.length → befB ops ops.length i j = false → (∀ y ∈ keys (W i), y ∉ R j ∧ y ∉ keys (W j)) ∧ ∀ y ∈ keys (W j), y ∉ R i)
    (hins : ∀ i o e, ops[i]? = some o → N i = some e → W i = [] ∧ cr i = none ∧ o.guard = none ∧ o.dst = none ∧ InsOK P (stW ops T W s M fun j => decide (j < i)) o.op e)
    (hNR : ∀ i j e, i < ops.length → j < ops.length → N i = none → N j = some e → e.1 ∉ R i ∧ (e.1 ∈ keys (W i) → befB ops ops.length i j = true))
    (hdist : ∀ i j e e', i ≠ j → N i = some e → N j = some e' → e.1 = e'.1 → e.2.1 ≠ e'.2.1)
    (hval : ∀ i o, ops[i]? = some o → N i = none → putOK o.dst s ∧ OpG P ops.toArray (stW ops T W s M fun j => decide (j < i)) o (T i) (W i) (cr i) (R i))
    (hfin : ∃ s', (stX ops T W s M (fun _ => true) ((List.range ops.length).filterMap N)).Eqo s' ∧ RunK P Γ Q kt .normal s') : V P Γ (.region id ops.toArray true) s (RunK P Γ Q kt) := by
  intro K a w hin hs
  refine wp_region_any hm ?_
  have hin0 : In Γ K { w with drawn := w.drawn + 1 } := ⟨hin.le, hin.none0, hin.memNew, hin.fresh, hin.os, hin.tape, hin.output, hin.size, hin.block⟩
  have hs0 : Sim K Γ.own s a { w with drawn := w.drawn + 1 } := ⟨⟨hs.sat.mem, fun i ob hi => by
      obtain ⟨h, h1, h2, h3⟩ := hs.sat.ob i ob hi
      exact ⟨h, h1, h2, h3.keep (.refl _) fun b e => rfl⟩, hs.sat.apart⟩, hs.defers, hs.size, hs.env, hs.hdr⟩
  generalize ({ w with drawn := w.drawn + 1 } : World) = w0 at hin0 hs0
  have hLdist : ∀ L : List InsE, L.Perm ((List.range ops.length).filterMap N) → L.Pairwise fun a b => a.1 = b.1 → a.2.1 ≠ b.2.1 := fun L hp => by
    refine pairwise_perm_ins hp.symm ?_
    rw [List.pairwise_filterMap]
    refine List.nodup_range.imp fun {a b} hab e he e' he' hid => ?_
    exact hdist a b e e' hab he he' hid
  have key : ∀ (fuel : Nat) (listed : Array Bool) (L : List InsE) (K : Kr) (a : Act) (w : World), listed.size = ops.length → (listed.toList.filter (! ·)).length ≤ fuel →
      (∀ j y, ops[j]? = some y → listed.getD j false = true → ∀ p ∈ dirPred y, listed.getD p false = true) → In Γ K w → Sim K Γ.own (stX ops T W s M (fun j => listed.getD j false) L) a w →
      L.Perm ((List.range ops.length).filterMap fun j => if listed.getD j false = true then N j else none) →
      (∀ j x, j < ops.length → listed.getD j false = false → cr j = some x → K.hdr x = none) →
      wpAny P .any ops.toArray (VPost Γ (RunK P Γ Q kt)) fuel listed a w := by
    have allDone : ∀ (listed : Array Bool) (L : List InsE) (K : Kr) (a : Act) (w : World), (∀ j, j < ops.length → listed.getD j false = true) → In Γ K w → Sim K Γ.own (stX ops T W s M (fun j => listed.getD j false) L) a w →
        L.Perm ((List.range ops.length).filterMap fun j => if listed.getD j false = true then N j else none) →
        ∃ K' s', In Γ K' w ∧ Sim K' Γ.own s' a w ∧ RunK P Γ Q kt .normal s' := fun listed L K a w hall hin hs hLp => by
      obtain ⟨s', he, hfin⟩ := hfin
      have hLc : ((List.range ops.length).filterMap fun j => if listed.getD j false = true then N j else none) = (List.range ops.length).filterMap N :=
        fm_congr fun j hj => by rw [if_pos (hall j (List.mem_range.1 hj))]
      rw [hLc] at hLp
      have h1 : Sim K Γ.own (stX ops T W s M (fun _ => true) L) a w := by
        refine hs.eqo ⟨rfl, fun x => ?_, rfl, fun x => ?_⟩
        · simp only [stX, stW, getK_insL, getK_applyW]
          rw [wlog_congr W _ (fun _ => true) x ops.length fun j hj _ => hall j hj]
        · exact envF_congr T _ _ x ops 0 s.env s.env rfl fun j o hj _ => by
            have hl := (List.getElem?_eq_some_iff.1 hj).1
            simp only [Nat.zero_add]
            exact hall j hl
      · refine ⟨K, _, hin, Sim.eqo (⟨h1.sat.permL hLp ?_ ?_, h1.defers, h1.size, h1.env, h1.hdr⟩ : Sim K Γ.own (stX ops T W s M (fun _ => true) ((List.range ops.length).filterMap N)) a w) he, hfin⟩
        · exact hLdist _ hLp
        · intro e he
          obtain ⟨j, hj, hNj⟩ := List.mem_filterMap.1 (hLp.mem_iff.1 he)
          have hjl := List.mem_range.1 hj
          obtain ⟨g1, g2, g3, g4, g5⟩ := hins j _ e (List.getElem?_eq_getElem hjl) hNj
          obtain ⟨kk, ag, g6⟩ := g5.base
          refine ⟨kk, ag, ?_⟩
          rw [← g6]
          simp only [stW, getK_applyW]
          rw [wlog_congr W (fun _ => true) (fun q => decide (q < j)) e.1 ops.length fun q hq hk => ?_]
          have hqn : N q = none := by
            cases hN : N q with
            | none => rfl
            | some e' =>
              rw [(hins q _ e' (List.getElem?_eq_getElem hq) hN).1] at hk
              cases hk
          have := bef_lt hord ((hNR q j e hq hjl hqn hNj).2 hk)
          simp [this]
    have least : ∀ (listed : Array Bool), listed.size = ops.length → ∀ i, i < ops.length → listed.getD i false = false → ∃ i0, i0 ∈ Region.ready .any ops.toArray listed := fun listed hsz i hi hu => by
      induction i using Nat.strongRecOn with
      | _ i ih =>
        have ho : ops[i]? = some ops[i] := List.getElem?_eq_getElem hi
        by_cases hp : ∀ p ∈ dirPred ops[i], listed.getD p false = true
        · refine ⟨i, mem_ready.2 ⟨?_, ops[i], by simp, fun e he hb => hp e.on ?_⟩⟩
          · have hi' : i < listed.size := by omega
            simp [hi'] at hu ⊢
            exact hu
          · simp only [dirPred, List.mem_map, List.mem_filter]
            exact ⟨e, ⟨by simpa using he, hb⟩, rfl⟩
        · simp only [Classical.not_forall] at hp
          obtain ⟨p, hpm, hpu⟩ := hp
          have hlt := (ord_pred hord ho).1 p hpm
          exact ih p hlt (by omega) (by simpa using hpu)
    intro fuel
    induction fuel with
    | zero =>
      intro listed L K a w hsz hcnt hcl hin hs hLp _
      have hall : ∀ j, j < ops.length → listed.getD j false = true := fun j hj => by
        have hj' : j < listed.size := by omega
        have h0 : (listed.toList.filter (! ·)) = [] := List.eq_nil_of_length_eq_zero (by omega)
        have := (List.filter_eq_nil_iff.1 h0) listed[j] (by simp)
        simp only [Bool.not_eq_true', Bool.not_eq_false] at this
        simp [hj', this]
      refine ⟨?_, .inl (allDone listed L K a w hall hin hs hLp)⟩
      refine List.eq_nil_iff_forall_not_mem.2 fun i hi => ?_
      obtain ⟨h1, o, ho, _⟩ := mem_ready.1 hi
      have hl : i < ops.length := by
        have := (Array.getElem?_eq_some_iff.1 ho).1
        simpa using this
      have := hall i hl
      have hi' : i < listed.size := by omega
      simp [hi'] at h1 this
      rw [h1] at this
      cases this
    | succ fuel ih =>
      intro listed L K a w hsz hcnt hcl hin hs hLp hfr
      refine ⟨fun hnil => .inl (allDone listed L K a w (fun j hj => ?_) hin hs hLp), fun i hi => ?_⟩
      · cases hu : listed.getD j false with
        | true => rfl
        | false =>
          obtain ⟨i0, h0⟩ := least listed hsz j hj hu
          rw [hnil] at h0
          cases h0
      · obtain ⟨hun, o, ho, hall⟩ := mem_ready.1 hi
        have ho' : ops[i]? = some o := by simpa using ho
        have hil := (List.getElem?_eq_some_iff.1 ho').1
        have hil' : i < listed.size := by omega
        have hunf : listed.getD i false = false := by simp [hil'] at hun ⊢; exact hun
        have hpred : ∀ p ∈ dirPred o, listed.getD p false = true := fun p hp => by
          simp only [dirPred, List.mem_map, List.mem_filter] at hp
          obtain ⟨e, ⟨he, hb⟩, rfl⟩ := hp
          exact hall e (by simpa using he) hb
        have bef1 : ∀ j, befB ops ops.length j i = true → listed.getD j false = true := fun j hb => bef_closed hcl _ j i o ho' hpred hb
        have bef2 : ∀ j x, ops[j]? = some x → befB ops ops.length i j = true → listed.getD j false = false := fun j x hj hb => by
          cases hu : listed.getD j false with
          | false => rfl
          | true =>
            have := bef_closed hcl _ i j x hj (hcl j x hj hu) hb
            rw [hunf] at this
            cases this
        have hLm : ∀ e ∈ L, ∃ j, j < ops.length ∧ listed.getD j false = true ∧ N j = some e := fun e he => by
          obtain ⟨j, hj, hNj⟩ := List.mem_filterMap.1 (hLp.mem_iff.1 he)
          split at hNj
          · rename_i hl; exact ⟨j, List.mem_range.1 hj, hl, hNj⟩
          · cases hNj
        -- who writes a slot that this operation looks at, or writes
        have before : ∀ j x, ops[j]? = some x → j < i → meets ops.toArray x o = true ∨ meets ops.toArray o x = true → listed.getD j false = true := fun j x hj hlt hmm =>
          bef1 j ((ord_pred hord ho').2.2 j x hlt hj hmm)
        have behind : ∀ j x, ops[j]? = some x → i < j → meets ops.toArray x o = true ∨ meets ops.toArray o x = true → listed.getD j false = false := fun j x hj hlt hmm =>
          bef2 j x hj ((ord_pred hord hj).2.2 i o hlt ho' hmm.symm)
        have agree : ∀ t, t ∈ o.looksAt ops.toArray → getK (envF T (fun j => listed.getD j false) ops 0 s.env) t = getK (envF T (fun j => decide (j < i)) ops 0 s.env) t := fun t ht => by
          refine envF_congr T _ _ t ops 0 s.env s.env rfl fun j x hj hx => ?_
          simp only [Nat.zero_add]
          have hmm : meets ops.toArray x o = true := by simp [meets, hx, ht]
          rcases Nat.lt_trichotomy j i with h | h | h
          · rw [before j x hj h (.inl hmm)]; simp [h]
          · subst h; rw [hunf]; simp
          · rw [behind j x hj h (.inl hmm)]; simp; omega
        have hopd : ∀ x ∈ o.op.operands, opd (stW ops T W s M fun j => decide (j < i)) x = opd (stX ops T W s M (fun j => listed.getD j false) L) x := fun x hx => by
          cases x with
          | tmp t =>
            simp only [opd, St.at, stX, stW]
            rw [agree t (List.mem_append_left _ (List.mem_filterMap.2 ⟨.tmp t, by simpa using hx, rfl⟩))]
          | _ => rfl
        have hNn : ∀ j y, j < ops.length → y ∈ keys (W j) → N j = none := fun j y hj hk => by
          cases hN : N j with
          | none => rfl
          | some e => rw [(hins j _ e (List.getElem?_eq_getElem hj) hN).1] at hk; cases hk
        -- who changes an object that this operation looks at
        have hloc0 : ∀ y, (y ∈ R i ∨ (∃ e, N i = some e ∧ y = e.1)) → getK (stW ops T W s M fun j => decide (j < i)).obs y = getK (stW ops T W s M fun j => listed.getD j false).obs y := fun y hy => by
          simp only [stW, getK_applyW]
          rw [wlog_congr W (fun j => decide (j < i)) (fun j => listed.getD j false) y ops.length fun j hj hk => ?_]
          rcases Nat.lt_trichotomy j i with h | h | h
          · have hb : befB ops ops.length j i = true := by
              cases hb : befB ops ops.length j i with
              | true => rfl
              | false =>
                rcases hy with hy | ⟨e, hNe, rfl⟩
                · exact absurd hy (((hpair j i h hil hb).1 y hk).1)
                · have := (hNR j i e hj hil (hNn j _ hj hk) hNe).2 hk
                  rw [hb] at this
                  exact this
            rw [bef1 j hb]
            simp [h]
          · subst h; rw [hunf]; simp
          · have hb : befB ops ops.length i j = true := by
              cases hb : befB ops ops.length i j with
              | true => rfl
              | false =>
                rcases hy with hy | ⟨e, hNe, rfl⟩
                · exact absurd hy ((hpair i j h hj hb).2 y hk)
                · have := bef_lt hord ((hNR j i e hj hil (hNn j _ hj hk) hNe).2 hk)
                  omega
            rw [bef2 j _ (List.getElem?_eq_getElem hj) hb]
            simp; omega
        have hlast : ∀ y ∈ keys (W i), ∀ j, j < ops.length → i < j → y ∈ keys (W j) → listed.getD j false = false := fun y hy j hj hlt hk => by
          have hb : befB ops ops.length i j = true := by
            cases hb : befB ops ops.length i j with
            | true => rfl
            | false => exact absurd hk ((hpair i j hlt hj hb).1 y hy).2
          exact bef2 j _ (List.getElem?_eq_getElem hj) hb
        have hS : (fun j => (listed.setIfInBounds i true).getD j false) = fun j => listed.getD j false || j == i := funext fun j => by
          by_cases hji : j = i
          · subst hji; simp [hil']
          · simp [Array.getElem?_setIfInBounds_ne (Ne.symm hji), hji]
        -- the slots behind this operation
        have henv : ∀ (x : Nat), o.dst = some x → getK (envF T (fun j => listed.getD j false || j == i) ops 0 s.env) x = some (T i) := fun x hdx =>
          envF_put T _ i x ops 0 s.env i o ho' (by omega) hdx fun j o' hj hlt hd' => by
            rw [Nat.zero_add]
            exact behind j o' hj hlt (.inl (by simp [meets, hd', hdx]))
        have henv' : ∀ (x : Nat), o.dst ≠ some x → getK (envF T (fun j => listed.getD j false || j == i) ops 0 s.env) x = getK (envF T (fun j => listed.getD j false) ops 0 s.env) x := fun x hdx =>
          envF_congr T _ (fun j => listed.getD j false) x ops 0 s.env s.env rfl fun j o' hj hd' => by
            simp only [Nat.zero_add]
            have : j ≠ i := fun e => by subst e; rw [ho'] at hj; cases hj; exact hdx hd'
            simp [this]
        have go : ∀ K' a' w' (L : List InsE), In Γ K' w' → Sim K' Γ.own (stX ops T W s M (fun j => listed.getD j false || j == i) L) a' w' →
            L.Perm ((List.range ops.length).filterMap fun j => if (listed.getD j false || j == i) = true then N j else none) →
            (∀ j x, j < ops.length → (listed.getD j false || j == i) = false → cr j = some x → K'.hdr x = none) →
            wpAny P .any ops.toArray (VPost Γ (RunK P Γ Q kt)) fuel (listed.setIfInBounds i true) a' w' := fun K' a' w' L h1 h2 hLq h3 => by
          have hS' : ∀ j, (listed.setIfInBounds i true).getD j false = (listed.getD j false || j == i) := fun j => congrFun hS j
          refine ih (listed.setIfInBounds i true) L K' a' w' (by simp [hsz]) ?_ (fun j y hj hSj p hp => ?_) h1 (by rw [hS]; exact h2) (by simp only [hS']; exact hLq) (fun j x hj hu => h3 j x hj (by rw [← hS']; exact hu))
          · have cnt : ∀ (l : List Bool) (n : Nat), l[n]? = some false → ((l.set n true).filter (! ·)).length + 1 = (l.filter (! ·)).length := by
              intro l
              induction l with
              | nil => intro n h; simp at h
              | cons b l ih =>
                intro n h
                cases n with
                | zero => simp at h; subst h; simp
                | succ n =>
                  have := ih n (by simpa using h)
                  cases b <;> simp at this ⊢ <;> omega
            have := cnt listed.toList i (by
              rw [Array.getElem?_toList, Array.getElem?_eq_getElem hil']
              simp [hil'] at hunf
              rw [hunf])
            rw [Array.toList_setIfInBounds]
            omega
          · rw [hS'] at hSj ⊢
            simp only [Bool.or_eq_true, beq_iff_eq] at hSj ⊢
            rcases hSj with hSj | rfl
            · exact .inl (hcl j y hj hSj p hp)
            · rw [ho'] at hj
              cases hj
              exact .inl (hpred p hp)
        cases hNi : N i with
        | some e0 =>
          obtain ⟨hW, hcn, hg, hd0, hok⟩ := hins i o e0 ho' hNi
          obtain ⟨tt, x, ki, v, kk, ag, z, ku, hop, hinf, hx, hki, hkey, hkk, hvm, hg0⟩ := hok
          rw [hopd x (by rcases hop with hop | hop <;> simp [hop, Op.operands])] at hx
          rw [hopd ki (by rcases hop with hop | hop <;> simp [hop, Op.operands])] at hki
          rw [hopd v (by rcases hop with hop | hop <;> simp [hop, Op.operands])] at hvm
          have hcur : ∃ es, getK (stX ops T W s M (fun j => listed.getD j false) L).obs e0.1 = some (.map kk ag es) := by
            have h1 := hloc0 e0.1 (.inr ⟨e0, hNi, rfl⟩)
            rw [hg0] at h1
            obtain ⟨es, h2⟩ := insO_map L e0.1 kk ag []
            refine ⟨es, ?_⟩
            simp only [stX, getK_insL]
            rw [← h2]
            exact congrArg _ h1.symm
          obtain ⟨es, hes⟩ := hcur
          obtain ⟨w1, hrun, h1, h2⟩ := mapUpd_keep hop hd0 hinf hx hki hes hkey hkk hvm hin hs
          unfold wpOp
          rw [ho]
          simp only
          have hw : Region.wanted o (yielded ops.toArray a.tmps) = true := by simp [Region.wanted, hg]
          rw [if_pos hw]
          refine .inl ?_
          unfold Oper.wp
          rw [hrun]
          refine go K _ w1 (L ++ [e0]) h1 (h2.eqo ⟨rfl, fun y => ?_, rfl, fun y => ?_⟩) (filterMap_put hLp hil hunf hNi) fun j x hj hu hc => ?_
          · have hsame : getK (wlog W (fun j => listed.getD j false || j == i) ops.length) y = getK (wlog W (fun j => listed.getD j false) ops.length) y := wlog_congr W _ _ y ops.length fun j hj hk => by
              by_cases hji : j = i
              · subst hji; rw [hW] at hk; cases hk
              · simp [hji]
            simp only [getK_setOb, getK_cons]
            simp only [stX, stW, getK_insL, getK_applyW, hsame, insO_append] at hes ⊢
            by_cases hy : y = e0.1
            · subst hy
              rw [if_pos rfl, hes]
              simp [insO, obE]
            · rw [if_neg hy]
              simp [insO, hy]
          · simp only [stX, stW]
            exact (henv' y (by rw [hd0]; simp)).symm
          · simp only [Bool.or_eq_false_iff] at hu
            exact hfr j x hj hu.1 hc
        | none =>
        obtain ⟨hpo, hv⟩ := hval i o ho' hNi
        have hloc : ∀ y ∈ R i, getK (stW ops T W s M fun j => decide (j < i)).obs y = getK (stX ops T W s M (fun j => listed.getD j false) L).obs y := fun y hy => by
          rw [hloc0 y (.inl hy)]
          simp only [stX, getK_insL]
          rw [insO_none fun e he => ?_]
          obtain ⟨j, hj, _, hNj⟩ := hLm e he
          exact fun h => (hNR i j e hil hj hNi hNj).1 (h ▸ hy)
        have hLi : ∀ y ∈ keys (W i), ∀ e ∈ L, e.1 ≠ y := fun y hy e he h => by
          obtain ⟨j, hj, hl, hNj⟩ := hLm e he
          have hb := (hNR i j e hil hj hNi hNj).2 (by rw [h]; exact hy)
          have := bef2 j _ (List.getElem?_eq_getElem hj) hb
          rw [hl] at this
          cases this
        have hLp' : L.Perm ((List.range ops.length).filterMap fun j => if (listed.getD j false || j == i) = true then N j else none) := by
          rw [filterMap_skip hNi]
          exact hLp
        -- an operation that changes nothing
        have next : W i = [] → ∀ K' v w', In Γ K' w' → K.le K' → K'.hdr = K.hdr → Sat K' Γ.own (stX ops T W s M (fun j => listed.getD j false) L).obs w' → Rep K' (T i) v →
            wpAny P .any ops.toArray (VPost Γ (RunK P Γ Q kt)) fuel (listed.setIfInBounds i true) (a.put o.dst v) w' := fun hW K' v w' h1 h2 h3 h4 h5 => by
          refine go K' _ w' L h1 ?_ hLp' fun j x hj hu hc => by
            rw [h3]
            simp only [Bool.or_eq_false_iff] at hu
            exact hfr j x hj hu.1 hc
          have hdef : (a.put o.dst v).defers = Γ.own.dfr := by cases o.dst <;> exact hs.defers
          have hsize : (a.put o.dst v).tmps.size = s.n := by
            have hsz2 : a.tmps.size = s.n := hs.size
            cases o.dst <;> simp [Act.put, hsz2]
          refine ⟨h4.eqo fun y => ?_, hdef, hsize, fun x d hx => ?_, fun j hj => by rw [h3]; exact hs.hdr j hj⟩
          · simp only [stX, stW, getK_insL, getK_applyW]
            rw [wlog_congr W (fun j => listed.getD j false) (fun j => listed.getD j false || j == i) y ops.length fun j hj hk => ?_]
            by_cases hji : j = i
            · subst hji; rw [hW] at hk; cases hk
            · simp [hji]
          · simp only [stX, stW] at hx
            by_cases hdx : o.dst = some x
            · rw [henv x hdx] at hx
              cases hx
              have hlt : x < s.n := by rw [hdx] at hpo; exact hpo
              refine ⟨hlt, ?_⟩
              have hsz' : a.tmps.size = s.n := hs.size
              rw [hdx]
              simpa [Act.put, hsz', hlt] using h5
            · rw [henv' x hdx] at hx
              obtain ⟨g1, g2⟩ := hs.env x d hx
              refine ⟨g1, ?_⟩
              have e : (a.put o.dst v).tmps.getD x undef = a.tmps.getD x undef := by
                cases hd : o.dst with
                | none => rfl
                | some y =>
                  have hne : y ≠ x := fun e => hdx (by rw [hd, e])
                  simp [Act.put, Array.getElem?_setIfInBounds_ne hne]
              rw [e]
              exact g2.mono h2
        unfold wpOp
        rw [ho]
        simp only
        have two : (Region.wanted o (yielded ops.toArray a.tmps) = true ∧ Op1 P (stW ops T W s M fun j => decide (j < i)) o.op o.dst (T i) (W i) (cr i) (R i)) ∨ (Region.wanted o (yielded ops.toArray a.tmps) = false ∧ T i = .un ∧ W i = []) := by
          unfold OpG at hv
          split at hv
          · rename_i hg
            exact .inl ⟨by simp [Region.wanted, hg], hv⟩
          · rename_i j want hg
            obtain ⟨t, ht, hv⟩ := hv
            have lift : ∀ dd, getK (stW ops T W s M fun j => decide (j < i)).env t = some dd → getK (stX ops T W s M (fun j => listed.getD j false) L).env t = some dd := fun dd hb => by
              simp only [stX, stW] at hb ⊢
              rw [agree t (by
                refine List.mem_append_right _ ?_
                unfold guardTmp at ht
                simp only [hg]
                rw [ht]
                simp)]
              exact hb
            rcases hv with ⟨b, hb, hv⟩ | ⟨hb, hv⟩
            · have hb' := lift _ hb
              obtain ⟨hlt, hr⟩ := hs.getK hb'
              have hbv := rep_bool hr
              have hyd : yielded ops.toArray a.tmps j = some b := by
                unfold yielded
                unfold guardTmp at ht
                rw [ht]
                simp only [Option.bind_some]
                have : a.tmps[t]? = some (.bool b) := by
                  rw [Array.getElem?_eq_getElem hlt]
                  simp [hlt] at hbv
                  rw [hbv]
                rw [this]
              by_cases hbw : b = want
              · rw [if_pos hbw] at hv
                exact .inl ⟨by simp [Region.wanted, hg, hyd, hbw], hv⟩
              · rw [if_neg hbw] at hv
                exact .inr ⟨by simp [Region.wanted, hg, hyd, hbw], hv.1, hv.2.1⟩
            · have hb' := lift _ hb
              obtain ⟨hlt, hr⟩ := hs.getK hb'
              have hbv := rep_oth hr
              have hyd : yielded ops.toArray a.tmps j = none := by
                unfold yielded
                unfold guardTmp at ht
                rw [ht]
                simp only [Option.bind_some]
                have : a.tmps[t]? = some undef := by
                  rw [Array.getElem?_eq_getElem hlt]
                  simp [hlt] at hbv
                  rw [hbv]
                rw [this]
                rfl
              exact .inr ⟨by simp [Region.wanted, hg, hyd], hv.1, hv.2.1⟩
        rcases two with ⟨hw, hv⟩ | ⟨hw, hv⟩
        · rw [if_pos hw]
          rcases hv with ⟨hv, hW, hcn, hR⟩ | ⟨e, he, hR, hcase⟩
          · replace hv := valD_loc (s := stW ops T W s M fun j => decide (j < i)) (s' := stX ops T W s M (fun j => listed.getD j false) L) (by rw [← hR]; exact hloc) hopd hv
            exact .inl (valD_run hv hin hs fun K' v w' h1 h2 h3 h4 h5 => next hW K' v w' h1 h2 h3 h4 h5)
          · -- an operation that changes or makes an object
            replace he := effD_loc (s := stW ops T W s M fun j => decide (j < i)) (s' := stX ops T W s M (fun j => listed.getD j false) L) (by rw [← hR]; exact hloc) hopd he
            let un : Nat → Prop := fun y => ∃ j, j < ops.length ∧ (listed.getD j false || j == i) = false ∧ cr j = some y
            let ρ : Nat → Nat := fun y => open Classical in if cr i = some y then M else if un y then M + 1 + y else y
            have hknown : ∀ y h, K.hdr y = some h → ρ y = y ∧ y < M := fun y h hy => by
              have h1 : cr i ≠ some y := fun e => by rw [hfr i y hil hunf e] at hy; cases hy
              have h2 : ¬ un y := fun ⟨j, hj, hu, hc⟩ => by
                simp only [Bool.or_eq_false_iff] at hu
                rw [hfr j y hj hu.1 hc] at hy
                cases hy
              refine ⟨by simp only [ρ]; rw [if_neg h1, if_neg h2], ?_⟩
              rcases Nat.lt_or_ge y M with h | h
              · exact h
              · rw [hs.hdr y h] at hy; cases hy
            have hobs : ∀ y ob, getK (stX ops T W s M (fun j => listed.getD j false) L).obs y = some ob → (ρ y = y ∧ y < M) ∧ ob.all (Good ρ M) := fun y ob hy => by
              have hok := hs.sat.ob y ob hy
              obtain ⟨h, h1, _⟩ := hok
              exact ⟨hknown y h h1, (hs.sat.ob y ob hy).good hknown⟩
            have hgood := effD_all (g := Good ρ M) (fun _ => ⟨by simp [D.ren], by simp [D.under]⟩) (fun cs h => h.agg) he (fun x hx => (opd_rep hs x).good hknown) (fun y ob hy => (hobs y ob hy).2)
            obtain ⟨e', he', ⟨rfl, hgU, hgN⟩⟩ := Lin.effD.2 _ hgood
            have he2 : effD P (stX ops T W s M (fun j => listed.getD j false) L) o.op fun e => putOK o.dst (stX ops T W s M (fun j => listed.getD j false) L) ∧ (e.nw = none → o.dst = none) ∧
                ((stX ops T W s M (fun j => listed.getD j false) L).effS e o.dst) = (stX ops T W s M (fun j => listed.getD j false) L).effS e' o.dst :=
              Lin.effD.1 _ _ (fun e hee => by
                subst hee
                refine ⟨hpo, fun hn => ?_, rfl⟩
                rw [hn] at hcase
                exact hcase.1) he
            refine .inl (hstep_effG (k := fun s' => s' = (stX ops T W s M (fun j => listed.getD j false) L).effS e' o.dst) (effD_hstep he2) K a w hin hs _ _ (fun K' a' w' s' h1 h2 h3 => ?_) fun ch K' a' w' s' h1 h2 h3 => .inl ⟨K', s', h1, h2, h3⟩)
            subst h3
            have hle : St.Le Γ.n0 ρ ((stX ops T W s M (fun j => listed.getD j false) L).effS e' o.dst) (stX ops T W s M (fun j => listed.getD j false || j == i) L) := by
              have hWi : ∀ y, y ∈ keys (W i) → getK (wlog W (fun j => listed.getD j false || j == i) ops.length) y = getK (W i) y := fun y hy =>
                wlog_put W _ i y hy ops.length hil fun j hj hlt hk => hlast y hy j hj hlt hk
              have hWn : ∀ y, y ∉ keys (W i) → getK (wlog W (fun j => listed.getD j false || j == i) ops.length) y = getK (wlog W (fun j => listed.getD j false) ops.length) y := fun y hy =>
                wlog_congr W _ _ y ops.length fun j hj hk => by
                  by_cases hji : j = i
                  · subst hji; exact absurd hk hy
                  · simp [hji]
              have hinj : ∀ y1 y2, y1 < M → y2 < M → ρ y1 = ρ y2 → y1 = y2 := fun y1 y2 g1 g2 hr => by
                simp only [ρ] at hr
                by_cases c1 : cr i = some y1 <;> by_cases c2 : cr i = some y2
                · rw [c1] at c2; cases c2; rfl
                · rw [if_pos c1, if_neg c2] at hr
                  split at hr <;> omega
                · rw [if_neg c1, if_pos c2] at hr
                  split at hr <;> omega
                · rw [if_neg c1, if_neg c2] at hr
                  split at hr <;> split at hr <;> omega
              have hobs2 : ∀ y ob', getK (stX ops T W s M (fun j => listed.getD j false || j == i) L).obs y = some ob' → y < M ∧
                  ∃ ob, getK ((stX ops T W s M (fun j => listed.getD j false) L).effS e' o.dst).obs (ρ y) = some ob ∧ Ob.le ρ ob ob' ∧ ob'.under M = true := fun y ob' hy => by
                simp only [stX, stW, getK_insL, getK_applyW] at hy
                cases hn : e'.nw with
                | none =>
                  rw [hn] at hcase
                  obtain ⟨hd0, hWU, hcn⟩ := hcase
                  have hob : ∀ z, getK ((stX ops T W s M (fun j => listed.getD j false) L).effS e' o.dst).obs z = match getK (W i) z with | some x => x | none => getK (stX ops T W s M (fun j => listed.getD j false) L).obs z := fun z => by
                    simp only [St.effS, hn, getK_applyW, hWU]
                    rfl
                  by_cases hk : y ∈ keys (W i)
                  · rw [hWi y hk, insO_none (hLi y hk)] at hy
                    obtain ⟨x, hx⟩ := getK_isKey (W i) y hk
                    rw [hx] at hy
                    simp only at hy
                    subst hy
                    have hmem : (y, some ob') ∈ e'.U := by
                      rw [← hWU]
                      have : ∀ (l : Wr), getK l y = some (some ob') → (y, some ob') ∈ l := by
                        intro l
                        induction l with
                        | nil => intro h; cases h
                        | cons p l ih =>
                          obtain ⟨k', d'⟩ := p
                          intro h
                          rw [getK_cons] at h
                          by_cases hyk : y = k'
                          · rw [if_pos hyk] at h; cases h; subst hyk; simp
                          · rw [if_neg hyk] at h; exact List.mem_cons_of_mem _ (ih h)
                      exact this _ hx
                    obtain ⟨hga, o0, ho0⟩ := hgU _ hmem ob' rfl
                    obtain ⟨⟨hr, hlt⟩, _⟩ := hobs y o0 ho0
                    refine ⟨hlt, ob', ?_, (Ob.all_le hga).1, (Ob.all_le hga).2⟩
                    rw [hr, hob, hx]
                  · rw [hWn y hk] at hy
                    obtain ⟨⟨hr, hlt⟩, hga⟩ := hobs y ob' (by simp only [stX, stW, getK_insL, getK_applyW]; exact hy)
                    refine ⟨hlt, ob', ?_, (Ob.all_le hga).1, (Ob.all_le hga).2⟩
                    rw [hr, hob, getK_keys (W i) y hk]
                    simp only [stX, stW, getK_insL, getK_applyW]
                    exact hy
                | some nb =>
                  rw [hn] at hcase
                  obtain ⟨x0, hcx, hWU, hTi⟩ := hcase
                  have hx0 := hcr i x0 hcx
                  have hob : ∀ z, z ≠ M → getK ((stX ops T W s M (fun j => listed.getD j false) L).effS e' o.dst).obs z = match getK e'.U z with | some x => x | none => getK (stX ops T W s M (fun j => listed.getD j false) L).obs z := fun z hz => by
                    have : ∀ (q : St) (d : D), (q.put o.dst d).obs = q.obs := fun q d => by cases o.dst <;> rfl
                    simp only [St.effS, hn, this, getK_cons]
                    rw [if_neg (by simpa [stX, stW] using hz), getK_applyW]
                    rfl
                  have hobM : getK ((stX ops T W s M (fun j => listed.getD j false) L).effS e' o.dst).obs M = some nb := by
                    have : ∀ (q : St) (d : D), (q.put o.dst d).obs = q.obs := fun q d => by cases o.dst <;> rfl
                    simp only [St.effS, hn, this, getK_cons]
                    rw [if_pos (by simp [stX, stW])]
                  by_cases hyx : y = x0
                  · subst hyx
                    have hk : y ∈ keys (W i) := by rw [hWU]; simp [keys]
                    rw [insO_none (hLi y hk), hWi y hk, hWU, getK_cons, if_pos rfl] at hy
                    simp only at hy
                    cases hy
                    have hga := hgN ob' hn
                    refine ⟨hx0.2, ob', ?_, (Ob.all_le hga).1, (Ob.all_le hga).2⟩
                    simp only [ρ]
                    rw [if_pos hcx]
                    exact hobM
                  · by_cases hk : y ∈ keys (W i)
                    · rw [insO_none (hLi y hk), hWi y hk, hWU, getK_cons, if_neg hyx] at hy
                      have hk' : y ∈ e'.U.map (·.1) := by
                        rw [hWU] at hk
                        simp only [keys, List.map_cons, List.mem_cons] at hk
                        exact hk.resolve_left hyx
                      obtain ⟨x, hx⟩ := getK_isKey e'.U y hk'
                      rw [hx] at hy
                      simp only at hy
                      subst hy
                      have hmem : (y, some ob') ∈ e'.U := by
                        have : ∀ (l : Wr), getK l y = some (some ob') → (y, some ob') ∈ l := by
                          intro l
                          induction l with
                          | nil => intro h; cases h
                          | cons p l ih =>
                            obtain ⟨k', d'⟩ := p
                            intro h
                            rw [getK_cons] at h
                            by_cases hyk : y = k'
                            · rw [if_pos hyk] at h; cases h; subst hyk; simp
                            · rw [if_neg hyk] at h; exact List.mem_cons_of_mem _ (ih h)
                        exact this _ hx
                      obtain ⟨hga, o0, ho0⟩ := hgU _ hmem ob' rfl
                      obtain ⟨⟨hr, hlt⟩, _⟩ := hobs y o0 ho0
                      refine ⟨hlt, ob', ?_, (Ob.all_le hga).1, (Ob.all_le hga).2⟩
                      rw [hr, hob y (by omega), hx]
                    · rw [hWn y hk] at hy
                      obtain ⟨⟨hr, hlt⟩, hga⟩ := hobs y ob' (by simp only [stX, stW, getK_insL, getK_applyW]; exact hy)
                      refine ⟨hlt, ob', ?_, (Ob.all_le hga).1, (Ob.all_le hga).2⟩
                      have hk' : y ∉ e'.U.map (·.1) := by
                        rw [hWU] at hk
                        simp only [keys, List.map_cons, List.mem_cons, not_or] at hk
                        exact hk.2
                      rw [hr, hob y (by omega), getK_keys e'.U y hk']
                      simp only [stX, stW, getK_insL, getK_applyW]
                      exact hy
              have henv2 : ∀ x d', getK (stX ops T W s M (fun j => listed.getD j false || j == i) L).env x = some d' →
                  (D.le ρ (((stX ops T W s M (fun j => listed.getD j false) L).effS e' o.dst).at x) d' ∧ d'.under M = true) ∧ x < s.n := fun x d' hx => by
                simp only [stX, stW] at hx
                by_cases hdx : o.dst = some x
                · rw [henv x hdx] at hx
                  cases hx
                  have hlt : x < s.n := by rw [hdx] at hpo; exact hpo
                  cases hn : e'.nw with
                  | none =>
                    rw [hn] at hcase
                    rw [hcase.1] at hdx
                    cases hdx
                  | some nb =>
                    rw [hn] at hcase
                    obtain ⟨x0, hcx, hWU, hTi⟩ := hcase
                    have hx0 := hcr i x0 hcx
                    have hρ : ρ x0 = M := by simp only [ρ]; rw [if_pos hcx]
                    refine ⟨⟨.inr (.inl ?_), ?_⟩, hlt⟩
                    · rw [hTi]
                      simp only [St.effS, hn, hdx, St.put, St.at, getK_cons, if_true, Option.getD_some]
                      cases e'.how <;> simp [mkD, D.ren, hρ, stX, stW]
                    · rw [hTi]
                      cases e'.how <;> simp [mkD, D.under, hx0.2]
                · rw [henv' x hdx] at hx
                  obtain ⟨g1, g2⟩ := hs.env x d' hx
                  have hgd := g2.good hknown
                  have hat : ((stX ops T W s M (fun j => listed.getD j false) L).effS e' o.dst).at x = d' := by
                    have : ∀ (q : St) (d : D), getK (q.put o.dst d).env x = getK q.env x := fun q d => by
                      cases hd : o.dst with
                      | none => rfl
                      | some y =>
                        have hne : ¬ x = y := fun e => hdx (by rw [hd, e])
                        simp only [St.put, getK_cons, if_neg hne]
                    simp only [St.at, St.effS]
                    cases hn : e'.nw with
                    | none => simp only [stX, stW, hx]; rfl
                    | some nb => simp only [this, stX, stW, hx]; rfl
                  rw [hat]
                  exact ⟨⟨.inr (.inl hgd.1.symm), hgd.2⟩, g1⟩
              refine ⟨?_, fun x d' hx => (henv2 x d' hx).1, fun x d' hx => ?_, hobs2, fun y1 y2 o1 o2 g1 g2 hr => hinj y1 y2 (hobs2 y1 o1 g1).1 (hobs2 y2 o2 g2).1 hr, fun j hj => ?_⟩
              · have : ∀ (q : St) (d : D), (q.put o.dst d).n = q.n := fun q d => by cases o.dst <;> rfl
                simp only [St.effS]
                cases e'.nw <;> simp only [this] <;> rfl
              · have : ∀ (q : St) (d : D), (q.put o.dst d).n = q.n := fun q d => by cases o.dst <;> rfl
                have e2 : ((stX ops T W s M (fun j => listed.getD j false) L).effS e' o.dst).n = s.n := by
                  simp only [St.effS]
                  cases e'.nw <;> simp only [this] <;> rfl
                rw [e2]
                exact (henv2 x d' hx).2
              · have c1 : cr i ≠ some j := fun e => by have := (hcr i j e).1; omega
                have c2 : ¬ un j := fun ⟨q, _, _, hc⟩ => by have := (hcr q j hc).1; omega
                refine ⟨by simp only [ρ]; rw [if_neg c1, if_neg c2], ?_⟩
                show j < M
                omega
            obtain ⟨g1, g2⟩ := Sim.weak h1 h2 hle
            refine go _ a' w' L g1 g2 hLp' fun j x hj hu hc => ?_
            simp only [Kr.ren]
            split
            · have c1 : cr i ≠ some x := fun e => by
                have := hcr1 i j x e hc
                subst this
                simp at hu
              have c2 : un x := ⟨j, hj, hu, hc⟩
              simp only [ρ]
              rw [if_neg c1, if_pos c2]
              refine h2.hdr _ ?_
              have : ∀ (q : St) (d : D), (q.put o.dst d).next = q.next := fun q d => by cases o.dst <;> rfl
              simp only [St.effS]
              cases e'.nw <;> simp only [this, stX, stW] <;> omega
            · rfl
        · rw [if_neg (by rw [hw]; simp)]
          exact next hv.2 K undef w hin (.refl _) rfl hs.sat (by rw [hv.1]; exact .u _ _ (.oth _))
  have h0 : (fun j => (Array.replicate ops.toArray.size false).getD j false) = fun _ => false := funext fun j => by
    by_cases hj : j < ops.length <;> simp [hj]
  refine key _ _ [] K a w0 (by simp) (by simp) (fun j y hj hS => ?_) hin0 ?_ ?_ fun j x _ _ hc => hs.hdr x (hcr j x hc).1
  · have : (Array.replicate ops.toArray.size false).getD j false = false := congrFun h0 j
    rw [this] at hS
    cases hS
  · rw [h0]
    have none : ∀ (l : List Oper) (i : Nat) (e : List (Nat × D)), envF T (fun _ => false) l i e = e := by
      intro l
      induction l with
      | nil => intro i e; rfl
      | cons o l ih => intro i e; simp [envF, ih]
    have wn : ∀ m, wlog W (fun _ => false) m = [] := by
      intro m
      induction m with
      | zero => rfl
      | succ m ih => simp [wlog, ih]
    refine ⟨hs0.sat.eqo fun y => ?_, hs0.defers, hs0.size, fun x d hx => hs0.env x d ?_, fun y hy => hs0.hdr y (Nat.le_trans hM hy)⟩
    · simp only [stX, stW, wn, insL]; rfl
    · simp only [stX, stW, none] at hx; exact hx
  · have : ((List.range ops.length).filterMap fun j => if (Array.replicate ops.toArray.size false).getD j false = true then N j else none) = [] := by
      rw [List.filterMap_eq_nil_iff]
      intro j _
      rw [congrFun h0 j]
      simp
    rw [this]
end Go.VL

/- The calculus of values: statements of any order in which maps are filled, evaluated in the text's order. -/
namespace Go.VL
open Go

def tN (N : Nat → Option InsE) (n : Nat) : List (Option InsE) := (List.range n).map N
abbrev Ent.no : Ent := (.un, [], none, [])
def Op3 (P : Program) (s : St) (o : O1) (e : Ent) : Option InsE → Prop
  | none => putOK o.dst s ∧ Op2 P s o e
  | some q => e = Ent.no ∧ o.guard = none ∧ o.dst = none ∧ InsOK P s o.op q
def chain3 (P : Program) : List O1 → St → Fp → List (Option InsE) → (St → Fp → List (Option InsE) → Prop) → Prop
  | [], s, fp, ins, k => k s fp ins
  | o :: rest, s, fp, ins, k => ∃ (e : Ent) (q : Option InsE), Op3 P s o e q ∧ (∀ x, e.2.2.1 = some x → x = s.next) ∧ chain3 P rest (s.app o.dst e) (fp ++ [(e.2.2.2, keys e.2.1)]) (ins ++ [q]) k
def St.ins (s : St) (ins : List (Option InsE)) : St := { s with obs := insL (ins.filterMap id) s.obs }
def HD3 (P : Program) (l : List O1) (s : St) (fp : Fp) (ins : List (Option InsE)) (C : Fp → List (Option InsE) → Prop) (k : St → Prop) : Prop :=
  ∀ s0 : St, s0.Eqo s → chain3 P l s0 fp ins fun s1 fp ins => C fp ins ∧ ∃ s', (s1.ins ins).Eqo s' ∧ k s'
theorem St.Eqo.ins {s s' : St} (h : s.Eqo s') (L : List (Option InsE)) : (s.ins L).Eqo (s'.ins L) :=
  ⟨h.1, fun x => by simp only [St.ins, getK_insL, h.2.1 x], h.2.2.1, h.2.2.2⟩
theorem InsOK.eqo {P : Program} {s s' : St} {op : Op} {q : InsE} (e : s'.Eqo s) (h : InsOK P s op q) : InsOK P s' op q := by
  obtain ⟨t, x, ki, v, kk, ag, z, ku, h1, h2, h3, h4, h5, h6, h7, h8⟩ := h
  have ho : ∀ x, opd s' x = opd s x := fun x => by cases x <;> simp [opd, St.at, e.2.2.2]
  exact ⟨t, x, ki, v, kk, ag, z, ku, h1, h2, by rw [ho]; exact h3, by rw [ho]; exact h4, h5, h6, by rw [ho]; exact h7, by rw [e.2.1]; exact h8⟩
theorem HD3_of2 {P : Program} {o : O1} {rest : List O1} {s : St} {fp : Fp} {ins : List (Option InsE)} {C k} {K : St → Fp → Prop}
    (h : ∀ s0 : St, s0.Eqo s → ∃ e : Ent, putOK o.dst s0 ∧ Op2 P s0 o e ∧ (∀ x, e.2.2.1 = some x → x = s0.next) ∧ chain3 P rest (s0.app o.dst e) (fp ++ [(e.2.2.2, keys e.2.1)]) (ins ++ [none]) fun s1 fp ins => C fp ins ∧ ∃ s', (s1.ins ins).Eqo s' ∧ k s') : HD3 P (o :: rest) s fp ins C k := fun s0 e0 => by
  obtain ⟨e, h1, h2, h3, h4⟩ := h s0 e0
  exact ⟨e, none, ⟨h1, h2⟩, h3, h4⟩
theorem HD3_nil {P s fp ins C k} (hC : C fp ins) (h : k (s.ins ins)) : HD3 P [] s fp ins C k := fun _ e => ⟨hC, s.ins ins, e.ins ins, h⟩
theorem HD3_ins {P s op rest fp ins C k} {q : InsE} (hq : InsOK P s op q) (h : HD3 P rest s (fp ++ [([], [])]) (ins ++ [some q]) C k) : HD3 P (⟨none, op, none⟩ :: rest) s fp ins C k := fun s0 e =>
  ⟨Ent.no, some q, ⟨rfl, rfl, rfl, hq.eqo e⟩, fun x hx => (by cases hx), h _ (show (s0.app none Ent.no).Eqo s by simpa [St.app, St.put, applyW] using e)⟩
theorem HD3_cons {P s dst op rest fp ins C k} (h : valD P s op fun d => putOK dst s ∧ HD3 P rest (s.put dst d) (fp ++ [(rdIds s op, [])]) (ins ++ [none]) C k) : HD3 P (⟨dst, op, none⟩ :: rest) s fp ins C k := fun s0 e => by
  obtain ⟨d, hv, hp, hr⟩ := Lin.valD.2 _ h
  refine ⟨(d, [], none, rdIds s op), none, ⟨by cases dst <;> simp_all [putOK, e.1], .inl ⟨?_, rfl, rfl, (rdIds_eqo e op).symm⟩⟩, fun x hx => (by cases hx), ?_⟩
  · rw [valD_eqo e]; exact hv
  · exact hr _ (e.put dst d)
theorem HD3_eff {P s dst op rest fp ins C k} (h : effD P s op fun e => putOK dst s ∧ (e.nw = none → dst = none) ∧
    HD3 P rest (s.effS e dst) (fp ++ [(rdIds s op, match e.nw with | none => e.U.map (·.1) | some _ => s.next :: e.U.map (·.1))]) (ins ++ [none]) C k) : HD3 P (⟨dst, op, none⟩ :: rest) s fp ins C k := by
  intro s0 e0
  obtain ⟨e, hv, hp, hd, hr⟩ := Lin.effD.2 _ h
  have h2 : HD2 P (⟨dst, op, none⟩ :: []) s fp (fun _ => True) (fun _ => True) := HD2_eff (Lin.effD.1 _ _ (fun e' he => by subst he; exact ⟨hp, hd, HD2_nil trivial trivial⟩) hv)
  have hp0 : putOK dst s0 := by cases dst <;> simp_all [putOK, e0.1]
  have hv0 : effD P s0 op (· = e) := by rw [effD_eqo e0]; exact hv
  cases hn : e.nw with
  | none =>
    rw [hn] at hr
    obtain rfl := hd hn
    refine ⟨(.un, e.U, none, rdIds s op), none, ⟨hp0, .inr ⟨e, hv0, (rdIds_eqo e0 op).symm, ?_⟩⟩, fun x hx => (by cases hx), ?_⟩
    · rw [hn]; exact ⟨rfl, rfl, rfl⟩
    · have : (s0.app none (.un, e.U, none, rdIds s op)).Eqo (s.effS e none) := by
        refine ⟨?_, fun x => ?_, ?_, fun x => ?_⟩
        · simp only [St.app, St.effS, hn, St.put, e0.1]
        · simp only [St.app, St.effS, hn, St.put, getK_applyW, e0.2.1]
        · simp only [St.app, St.effS, hn, St.put, e0.2.2.1]; simp
        · simp only [St.app, St.effS, hn, St.put, e0.2.2.2]
      exact hr _ this
  | some ob =>
    rw [hn] at hr
    refine ⟨(mkD e.how s0.next, (s0.next, some ob) :: e.U, some s0.next, rdIds s op), none, ⟨hp0, .inr ⟨e, hv0, (rdIds_eqo e0 op).symm, ?_⟩⟩, fun x hx => (by cases hx; rfl), ?_⟩
    · rw [hn]; exact ⟨s0.next, rfl, rfl, rfl⟩
    · have hobs : ∀ (q : St) (d : D), (q.put dst d).obs = q.obs := fun q d => by cases dst <;> rfl
      have hnx : ∀ (q : St) (d : D), (q.put dst d).next = q.next := fun q d => by cases dst <;> rfl
      have hnn : ∀ (q : St) (d : D), (q.put dst d).n = q.n := fun q d => by cases dst <;> rfl
      have henv : ∀ (q q' : St) (d : D), (∀ x, getK q.env x = getK q'.env x) → ∀ x, getK (q.put dst d).env x = getK (q'.put dst d).env x := fun q q' d hq x => by
        cases dst with
        | none => exact hq x
        | some y => simp only [St.put, getK_cons, hq x]
      have : (s0.app dst (mkD e.how s0.next, (s0.next, some ob) :: e.U, some s0.next, rdIds s op)).Eqo (s.effS e dst) := by
        refine ⟨?_, fun x => ?_, ?_, fun x => ?_⟩
        · simp only [St.app, St.effS, hn, hnn, e0.1]
        · simp only [St.app, St.effS, hn, hobs, getK_cons, getK_applyW, e0.2.1, e0.2.2.1]
          by_cases hx : x = s.next <;> simp [hx]
        · simp only [St.app, St.effS, hn, hnx, e0.2.2.1]; rfl
        · simp only [St.app, St.effS, hn, e0.2.2.1]
          refine henv _ _ _ ?_ x
          intro x
          exact e0.2.2.2 x
      have hk : keys ((s0.next, some ob) :: e.U) = s.next :: e.U.map (·.1) := by simp [keys, e0.2.2.1]
      rw [hk]
      exact hr _ this
def isIns : Op → Bool
  | .mapUpdate .. | .insert .. => true
  | _ => false
theorem HD3_guard {P s dst op rest fp ins C k t want b} (hb : getK s.env t = some (.u (.bool b))) (hp : putOK dst s)
    (hy : b = want → isIns op = false ∧ HD3 P (⟨dst, op, none⟩ :: rest) (s.put (some t) (.u (.bool want))) fp ins C k)
    (hn : b = !want → HD3 P rest ((s.put (some t) (.u (.bool (!want)))).put dst .un) (fp ++ [([], [])]) (ins ++ [none]) C k) : HD3 P (⟨dst, op, some (t, want)⟩ :: rest) s fp ins C k := fun s0 e => by
  have lit : ∀ b', b = b' → s.Eqo (s.put (some t) (.u (.bool b'))) := fun b' e' => ⟨rfl, fun _ => rfl, rfl, fun x => by
    subst e'
    simp only [St.put, getK_cons]
    split
    · rename_i hx; rw [hx, hb]
    · rfl⟩
  have hb0 : getK s0.env t = some (.u (.bool b)) := by rw [e.2.2.2 t]; exact hb
  have hp0 : putOK dst s0 := by cases dst <;> simp_all [putOK, e.1]
  by_cases hbw : b = want
  · have e2 := e.trans (lit want hbw)
    obtain ⟨hni, hy⟩ := hy hbw
    obtain ⟨en, q, h1, h3, h4⟩ := hy s0 e2
    cases q with
    | some q =>
      obtain ⟨_, _, _, t', x', ki', v', kk, ag, z, ku, ho, _⟩ := h1
      rcases ho with ho | ho <;> (simp only at ho; rw [ho] at hni; cases hni)
    | none => exact ⟨en, none, ⟨h1.1, .inl ⟨b, hb0, by rw [if_pos hbw]; exact h1.2⟩⟩, h3, h4⟩
  · have hbn : b = !want := by cases b <;> cases want <;> simp_all
    have e2 := e.trans (lit (!want) hbn)
    refine ⟨(.un, [], none, []), none, ⟨hp0, .inl ⟨b, hb0, ?_⟩⟩, fun x hx => (by cases hx), ?_⟩
    · rw [if_neg hbw]
      exact ⟨rfl, rfl, rfl⟩
    · exact hn hbn _ (e2.put dst .un)
theorem tN_congr {N N' : Nat → Option InsE} {i : Nat} (h : ∀ j, j < i → N j = N' j) : tN N i = tN N' i :=
  List.map_congr_left fun j hj => h j (List.mem_range.1 hj)
theorem chain3_T {P : Program} {all : Array Oper} {s0 : St} {ops : List Oper} {k : St → Fp → List (Option InsE) → Prop} : ∀ (l : List O1) (tail : List Oper) (i : Nat) (E : Nat → Ent) (N : Nat → Option InsE), stripL all tail = some l → (∀ j, tail[j]? = ops[i + j]?) →
    chain3 P l (stE ops s0 E i) (tF E i) (tN N i) k → ∃ (E' : Nat → Ent) (N' : Nat → Option InsE), (∀ j, j < i → E' j = E j ∧ N' j = N j) ∧
      (∀ j o, i ≤ j → ops[j]? = some o → (N' j = none → putOK o.dst s0 ∧ OpG P all (stE ops s0 E' j) o (tT E' j) (tW E' j) (tC E' j) (tR E' j)) ∧ (∀ e, N' j = some e → E' j = Ent.no ∧ o.guard = none ∧ o.dst = none ∧ InsOK P (stE ops s0 E' j) o.op e) ∧ ∀ x, tC E' j = some x → x = s0.next + cnt E' j) ∧
      k (stE ops s0 E' (i + tail.length)) (tF E' (i + tail.length)) (tN N' (i + tail.length))
  | [], tail, i, E, N, hs, ht, h => by
    cases tail with
    | nil => exact ⟨E, N, fun _ _ => ⟨rfl, rfl⟩, fun j o hj ho => by have := ht (j - i); rw [show i + (j - i) = j by omega, ho] at this; simp at this, by simpa [chain3] using h⟩
    | cons x l => simp only [stripL] at hs; split at hs <;> simp at hs
  | o1 :: l, tail, i, E, N, hs, ht, h => by
    obtain ⟨x, tl, rfl, hx, hr⟩ := stripL_cons hs
    obtain ⟨e, q, hv, hnx, hc⟩ := h
    have hxi : ops[i]? = some x := by have := ht 0; simpa using this.symm
    have hdst : o1.dst = x.dst := by
      unfold strip at hx
      split at hx
      · simp at hx; subst hx; rfl
      · split at hx
        · simp at hx; subst hx; rfl
        · cases hx
    let E1 : Nat → Ent := fun j => if j = i then e else E j
    let N1 : Nat → Option InsE := fun j => if j = i then q else N j
    have h1 : ∀ j, j < i → E j = E1 j := fun j hj => by simp only [E1]; rw [if_neg (by omega)]
    have n1 : ∀ j, j < i → N j = N1 j := fun j hj => by simp only [N1]; rw [if_neg (by omega)]
    have hi : E1 i = e := by simp [E1]
    have ni : N1 i = q := by simp [N1]
    have hstep : (stE ops s0 E i).app o1.dst e = stE ops s0 E1 (i + 1) := by
      rw [stE_congr h1, hdst]
      simp only [stE, St.app]
      rw [envF_step (tT E1) i ops 0 s0.env x (Nat.zero_le _) (by simpa using hxi)]
      have hw : wlog (tW E1) (fun _ => true) (i + 1) = e.2.1 ++ wlog (tW E1) (fun _ => true) i := by
        rw [wlog, if_pos rfl, show tW E1 i = e.2.1 by simp only [tW, hi]]
      have hcn : cnt E1 (i + 1) = cnt E1 i + if e.2.2.1.isSome then 1 else 0 := by
        rw [cnt, show tC E1 i = e.2.2.1 by simp only [tC, hi]]
      rw [hw, applyW_append, hcn]
      have hT : tT E1 i = e.1 := by simp only [tT, hi]
      cases x.dst with
      | none => simp only [St.put, Nat.add_assoc]
      | some y => simp only [St.put, hT, Nat.add_assoc]
    have hfp : tF E i ++ [(e.2.2.2, keys e.2.1)] = tF E1 (i + 1) := by
      rw [tF_congr h1]
      simp only [tF, List.range_succ, List.map_append, List.map_cons, List.map_nil]
      rw [show tR E1 i = e.2.2.2 by simp only [tR, hi], show tW E1 i = e.2.1 by simp only [tW, hi]]
    have hin : tN N i ++ [q] = tN N1 (i + 1) := by
      rw [tN_congr n1]
      simp only [tN, List.range_succ, List.map_append, List.map_cons, List.map_nil, ni]
    rw [hstep, hfp, hin] at hc
    obtain ⟨E', N', g1, g2, g3⟩ := chain3_T l tl (i + 1) E1 N1 hr (fun j => by have := ht (j + 1); rw [show i + 1 + j = i + (j + 1) by omega, ← this]; simp) hc
    refine ⟨E', N', fun j hj => ⟨by rw [(g1 j (by omega)).1, h1 j hj], by rw [(g1 j (by omega)).2, n1 j hj]⟩, fun j o hj ho => ?_, ?_⟩
    · rcases Nat.lt_or_ge i j with h' | h'
      · exact g2 j o h' ho
      · obtain rfl : i = j := by omega
        rw [hxi] at ho
        cases ho
        have hEi : E' i = e := by rw [(g1 i (by omega)).1, hi]
        have hNi : N' i = q := by rw [(g1 i (by omega)).2, ni]
        have hst : stE ops s0 E' i = stE ops s0 E i := stE_congr fun j hj => by rw [(g1 j (by omega)).1, ← h1 j hj]
        refine ⟨fun hN => ?_, fun e' hN => ?_, fun y hy => ?_⟩
        · rw [hNi] at hN
          subst hN
          obtain ⟨hp, hv⟩ := hv
          refine ⟨by rw [hdst] at hp; exact hp, ?_⟩
          rw [hst]
          simp only [tT, tW, tC, tR, hEi]
          unfold strip at hx
          unfold OpG
          unfold Op2 at hv
          split at hx
          · rename_i hg
            simp at hx
            subst hx
            rw [hg]
            exact hv
          · rename_i q want hg
            split at hx
            · rename_i t ht'
              simp at hx
              subst hx
              rw [hg]
              exact ⟨t, ht', hv⟩
            · cases hx
        · rw [hNi] at hN
          subst hN
          obtain ⟨rfl, hg, hd, hok⟩ := hv
          rw [hst]
          unfold strip at hx
          split at hx
          · rename_i hg'
            simp at hx
            subst hx
            exact ⟨hEi, hg', hd, hok⟩
          · split at hx
            · simp at hx; subst hx; cases hg
            · cases hx
        · have : tC E' i = e.2.2.1 := by simp only [tC, hEi]
          rw [this] at hy
          have := hnx y hy
          rw [this, cnt_congr E' E i fun j hj => by rw [(g1 j (by omega)).1, ← h1 j hj]]
          rfl
    · rw [show i + (x :: tl).length = i + 1 + tl.length by simp; omega]
      exact g3
/-- Maps that are filled are touched by nothing else, but by what comes ahead; keys are put once. -/
def okI (ops : List Oper) (fp : Fp) (ins : List (Option InsE)) : Bool :=
  (List.range ops.length).all fun j => match ins.getD j none with
    | none => true
    | some e => (List.range ops.length).all fun i => match ins.getD i none with
      | none => !(fp.getD i ([], [])).1.contains e.1 && (!(fp.getD i ([], [])).2.contains e.1 || befB ops ops.length i j)
      | some e' => i == j || !(e'.1 == e.1) || !decide (e'.2.1 = e.2.1)
theorem V_draw3N {P Γ s} {Q : Exit → St → Prop} {kt : Kt} {id : Nat} {l : List Oper} (hm : P.follows .mixedOrders = true) (hord : ordOK l = true) (hn0 : Γ.n0 ≤ s.next)
    (h : ∀ (C : Fp → List (Option InsE) → Prop) (k : St → Prop), (∀ fp ins, okP l fp = true → okI l fp ins = true → C fp ins) → (∀ s', RunK P Γ Q kt .normal s' → k s') → match stripL l.toArray l with | some l' => HD3 P l' s [] [] C k | none => False) :
    V P Γ (.region id l.toArray true) s (RunK P Γ Q kt) := by
  have := h (fun fp ins => okP l fp = true ∧ okI l fp ins = true) _ (fun _ _ h g => ⟨h, g⟩) fun _ h => h
  split at this
  · rename_i l' hl
    have h0 : stE l s (fun _ => default) 0 = s := by
      have hnone : ∀ (l : List Oper) (i : Nat) (e : List (Nat × D)), envF (tT fun _ => default) (fun j => decide (j < 0)) l i e = e := by
        intro l
        induction l with
        | nil => intro i e; rfl
        | cons o l ih => intro i e; exact ih (i + 1) e
      simp only [stE, hnone]
      rfl
    have hc := this s (.refl s)
    rw [← h0] at hc
    obtain ⟨E, N, _, h2, ⟨hok, hoi⟩, s', h3, h4⟩ := chain3_T l' l 0 (fun _ => default) (fun _ => none) hl (fun j => by rw [Nat.zero_add]) hc
    rw [Nat.zero_add] at hok hoi h3
    have hlen : ∀ i, i < l.length → (tF E l.length).getD i ([], []) = (tR E i, keys (tW E i)) := fun i hi => by
      simp [tF, hi]
    have hlenN : ∀ i, i < l.length → (tN N l.length).getD i none = N i := fun i hi => by
      simp [tN, hi]
    have mono : ∀ i j, i ≤ j → cnt E i ≤ cnt E j := fun i j hij => by
      induction hij with
      | refl => exact Nat.le_refl _
      | step _ ih => simp only [cnt]; omega
    have hcr : ∀ i x, i < l.length → tC E i = some x → x = s.next + cnt E i ∧ cnt E (i + 1) = cnt E i + 1 := fun i x hi hx => by
      have := (h2 i _ (Nat.zero_le _) (List.getElem?_eq_getElem hi)).2.2 x hx
      exact ⟨this, by simp only [cnt, hx]; rfl⟩
    let cr : Nat → Option Nat := fun i => if i < l.length then tC E i else none
    have hN' : ∀ i e, (if i < l.length then N i else none) = some e → i < l.length ∧ N i = some e := fun i e hh => by
      split at hh
      · rename_i hi; exact ⟨hi, hh⟩
      · cases hh
    have hst : ∀ i, i < l.length → stW l (tT E) (tW E) s (s.next + cnt E l.length) (fun j => decide (j < i)) = { stE l s E i with next := s.next + cnt E l.length } := fun i hi => by
      simp only [stW, stE]
      rw [wlog_take (tW E) i l.length (by omega)]
    refine V_draw2N (T := tT E) (W := tW E) (cr := cr) (R := tR E) (N := fun i => if i < l.length then N i else none) (M := s.next + cnt E l.length) hm hord hn0 (by omega) (fun i x hx => ?_) (fun i j x hi hj => ?_) (fun i j hij hj hb => ?_) (fun i o e ho he => ?_) (fun i j e hi hj hni hnj => ?_) (fun i j e e' hij hni hnj hid => ?_) (fun i o ho hni => ?_) ⟨s', ?_, h4⟩
    · simp only [cr] at hx
      split at hx
      · rename_i hi
        obtain ⟨e1, e2⟩ := hcr i x hi hx
        have := mono (i + 1) l.length hi
        omega
      · cases hx
    · simp only [cr] at hi hj
      split at hi
      · rename_i hil
        split at hj
        · rename_i hjl
          obtain ⟨e1, e2⟩ := hcr i x hil hi
          obtain ⟨e3, e4⟩ := hcr j x hjl hj
          rcases Nat.lt_trichotomy i j with hlt | hlt | hlt
          · have := mono (i + 1) j hlt
            omega
          · exact hlt
          · have := mono (j + 1) i hlt
            omega
        · cases hj
      · cases hi
    · have := (List.all_eq_true.1 ((List.all_eq_true.1 hok) j (List.mem_range.2 hj))) i (List.mem_range.2 hij)
      rw [hb, hlen i (by omega), hlen j hj] at this
      simp only [Bool.false_or, Bool.and_eq_true] at this
      refine ⟨fun y hy => ?_, fun y hy => disjB_out this.2 y hy⟩
      have := disjB_out this.1 y hy
      rw [List.mem_append, not_or] at this
      exact this
    · have hi := (List.getElem?_eq_some_iff.1 ho).1
      obtain ⟨_, he⟩ := hN' i e he
      obtain ⟨g1, g2, g3, g4⟩ := (h2 i o (Nat.zero_le _) ho).2.1 e he
      refine ⟨by simp only [tW, g1], by simp only [cr, tC, g1]; simp, g2, g3, ?_⟩
      rw [hst i hi]
      exact g4
    · simp only [if_pos hi] at hni
      obtain ⟨_, hnj⟩ := hN' j e hnj
      have := (List.all_eq_true.1 hoi) j (List.mem_range.2 hj)
      rw [hlenN j hj, hnj] at this
      have := (List.all_eq_true.1 this) i (List.mem_range.2 hi)
      rw [hlenN i hi, hni, hlen i hi] at this
      simp only [Bool.and_eq_true, Bool.not_eq_true', Bool.or_eq_true] at this
      refine ⟨fun h => ?_, fun h => ?_⟩
      · have h1 := this.1
        simp [h] at h1
      · rcases this.2 with h1 | h1
        · simp [h] at h1
        · exact h1
    · obtain ⟨hi, hni⟩ := hN' i e hni
      obtain ⟨hj, hnj⟩ := hN' j e' hnj
      have := (List.all_eq_true.1 hoi) j (List.mem_range.2 hj)
      rw [hlenN j hj, hnj] at this
      have := (List.all_eq_true.1 this) i (List.mem_range.2 hi)
      rw [hlenN i hi, hni] at this
      simp only [Bool.or_eq_true, beq_iff_eq, Bool.not_eq_true', decide_eq_false_iff_not] at this
      rcases this with (h1 | h1) | h1
      · exact absurd h1 hij
      · simp [hid] at h1
      · exact h1
    · have hi := (List.getElem?_eq_some_iff.1 ho).1
      simp only [if_pos hi] at hni
      obtain ⟨g1, g2⟩ := (h2 i o (Nat.zero_le _) ho).1 hni
      refine ⟨g1, ?_⟩
      have hcri : cr i = tC E i := by simp only [cr]; rw [if_pos hi]
      rw [hst i hi, hcri]
      have eqo : ∀ (op : Op) (r : D → Prop), valD P { stE l s E i with next := s.next + cnt E l.length } op r = valD P (stE l s E i) op r := fun op r => valD_congr rfl fun x _ => by cases x <;> rfl
      have ero : ∀ (op : Op), rdIds { stE l s E i with next := s.next + cnt E l.length } op = rdIds (stE l s E i) op := fun op => by
        have e : opd { stE l s E i with next := s.next + cnt E l.length } = opd (stE l s E i) := funext fun x => by cases x <;> rfl
        unfold rdIds lentIds argsV
        rw [e]
      have efo : ∀ (op : Op) (r : ERes → Prop), effD P { stE l s E i with next := s.next + cnt E l.length } op r = effD P (stE l s E i) op r := fun op r =>
        propext ⟨effD_loc (fun _ _ => rfl) fun x _ => by cases x <;> rfl, effD_loc (fun _ _ => rfl) fun x _ => by cases x <;> rfl⟩
      unfold OpG at g2 ⊢
      unfold Op1 at g2 ⊢
      simp only [eqo, ero, efo]
      exact g2
    · have hfm : ((List.range l.length).filterMap fun i => if i < l.length then N i else none) = (tN N l.length).filterMap _root_.id := by
        rw [tN, List.filterMap_map]
        exact fm_congr fun j hj => by rw [if_pos (List.mem_range.1 hj)]; rfl
      rw [hfm]
      refine St.Eqo.trans (b := (stE l s E l.length).ins (tN N l.length)) ⟨rfl, fun x => ?_, rfl, fun x => ?_⟩ h3
      · simp only [stX, stW, stE, St.ins]
      · simp only [stX, stW, stE, St.ins]
        exact envF_congr (tT E) _ _ x l 0 s.env s.env rfl fun j o hj _ => by
          have := (List.getElem?_eq_some_iff.1 hj).1
          simp [this]
  · exact this.elim
theorem HD3_val {P s dst op rest fp ins C k} (_ : isEffOp op = false) (h : valD P s op fun d => putOK dst s ∧ HD3 P rest (s.put dst d) (fp ++ [(rdIds s op, [])]) (ins ++ [none]) C k) : HD3 P (⟨dst, op, none⟩ :: rest) s fp ins C k := HD3_cons h
theorem HD3_put {P s t x i v rest fp ins C k} (h : match mapInf P t, opd s x, opd s i with
    | some (kk, ag, _), .mp m, .u ku => match keyU ku, valM ag (opd s v), getK s.obs m with
      | some ky, some cells, some (.map kk' ag' []) => ky.kk = kk ∧ kk = kk' ∧ ag = ag' ∧ HD3 P rest s (fp ++ [([], [])]) (ins ++ [some (m, ky, cells)]) C k
      | _, _, _ => False
    | _, _, _ => False) : HD3 P (⟨none, .insert t x i v, none⟩ :: rest) s fp ins C k := by
  split at h
  · rename_i kk ag z m ku h1 h2 h3
    split at h
    · rename_i ky cells kk' ag' h4 h5 h6
      obtain ⟨g1, rfl, rfl, g2⟩ := h
      exact HD3_ins ⟨t, x, i, v, kk, ag, z, ku, .inr rfl, h1, h2, h3, h4, g1, h5, h6⟩ g2
    · exact h.elim
  · exact h.elim
theorem HD3_chg {P s dst op rest fp ins C k} (_ : isEffOp op = true) (_ : isIns op = false) (h : effD P s op fun e => putOK dst s ∧ (e.nw = none → dst = none) ∧
    HD3 P rest (s.effS e dst) (fp ++ [(rdIds s op, match e.nw with | none => e.U.map (·.1) | some _ => s.next :: e.U.map (·.1))]) (ins ++ [none]) C k) : HD3 P (⟨dst, op, none⟩ :: rest) s fp ins C k := HD3_eff h
def nIns (l : List Oper) : Nat := (l.filter fun o => isIns o.op).length
theorem V_drawN {P Γ s} {Q : Exit → St → Prop} {kt : Kt} {id : Nat} {l : List Oper} (_ : decide (1 < nIns l) = true) (hm : P.follows .mixedOrders = true) (hord : ordOK l = true) (hn0 : Γ.n0 ≤ s.next)
    (h : ∀ (C : Fp → List (Option InsE) → Prop) (k : St → Prop), (∀ fp ins, okP l fp = true → okI l fp ins = true → C fp ins) → (∀ s', RunK P Γ Q kt .normal s' → k s') → match stripL l.toArray l with | some l' => HD3 P l' s [] [] C k | none => False) :
    V P Γ (.region id l.toArray true) s (RunK P Γ Q kt) := V_draw3N hm hord hn0 h
theorem cg_HD3 {P l s s' fp fp' ins ins' C k} (h : s = s') (h' : fp = fp') (h'' : ins = ins') : HD3 P l s fp ins C k = HD3 P l s' fp' ins' C k := by rw [h, h', h'']
attribute [congr] cg_HD3
end Go.VL
