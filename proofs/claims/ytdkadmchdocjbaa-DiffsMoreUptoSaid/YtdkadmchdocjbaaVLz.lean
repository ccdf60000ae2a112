/- The calculus of values (VLv, VLw, VLx, VLy, VLz). -/
import Derived.Test.YtdkadmchdocjbaaVLu
set_option linter.all false
set_option maxRecDepth 100000
set_option maxHeartbeats 8000000
/- The calculus of values: a statement whose operations Go may carry out in more than one order, and that makes or changes objects: one evaluation in the text's order, and a look at what each operation touches, serve for all orders. -/
namespace Go.VL
open Go

-- the changes of the operations that have been carried out, the last first
def wlog (W : Nat → Wr) (S : Nat → Bool) : Nat → Wr
  | 0 => []
  | m + 1 => if S m then W m ++ wlog W S m else wlog W S m
theorem getK_append {α : Type} (a b : List (Nat × α)) (y : Nat) : getK (a ++ b) y = match getK a y with | some x => some x | none => getK b y := by
  induction a with
  | nil => rfl
  | cons p a ih =>
    obtain ⟨k, d⟩ := p
    rw [List.cons_append, getK_cons, getK_cons, ih]
    split <;> rfl
def keys (w : Wr) : List Nat := w.map (·.1)
theorem getK_keys {α : Type} : ∀ (w : List (Nat × α)) (y : Nat), y ∉ w.map (·.1) → getK w y = none
  | [], _, _ => rfl
  | (k, d) :: w, y, h => by
    simp only [List.map_cons, List.mem_cons, not_or] at h
    rw [getK_cons, if_neg h.1]
    exact getK_keys w y h.2
theorem getK_isKey {α : Type} : ∀ (w : List (Nat × α)) (y : Nat), y ∈ w.map (·.1) → ∃ x, getK w y = some x
  | [], _, h => by cases h
  | (k, d) :: w, y, h => by
    rw [getK_cons]
    by_cases hy : y = k
    · exact ⟨d, by rw [if_pos hy]⟩
    · rw [if_neg hy]
      simp only [List.map_cons, List.mem_cons] at h
      exact getK_isKey w y (h.resolve_left hy)
theorem wlog_congr (W : Nat → Wr) (S S' : Nat → Bool) (y : Nat) : ∀ m, (∀ j, j < m → y ∈ keys (W j) → S j = S' j) → getK (wlog W S m) y = getK (wlog W S' m) y
  | 0, _ => rfl
  | m + 1, h => by
    have ih := wlog_congr W S S' y m fun j hj => h j (by omega)
    simp only [wlog]
    by_cases hy : y ∈ keys (W m)
    · rw [h m (by omega) hy]
      split
      · rw [getK_append, getK_append, ih]
      · exact ih
    · have hk := getK_keys (W m) y hy
      have : ∀ (b : Bool) (L : Wr), getK (if b then W m ++ L else L) y = getK L y := fun b L => by
        cases b
        · rfl
        · rw [if_pos rfl, getK_append, hk]
      rw [this, this, ih]
theorem wlog_put (W : Nat → Wr) (S : Nat → Bool) (i y : Nat) (hy : y ∈ keys (W i)) : ∀ m, i < m → (∀ j, j < m → i < j → y ∈ keys (W j) → S j = false) →
    getK (wlog W (fun j => S j || j == i) m) y = getK (W i) y
  | 0, h, _ => absurd h (Nat.not_lt_zero _)
  | m + 1, h, hj => by
    simp only [wlog]
    by_cases he : m = i
    · subst he
      obtain ⟨x, hx⟩ := getK_isKey (W m) y hy
      simp only [beq_self_eq_true, Bool.or_true, if_true, getK_append, hx]
    · have ih := wlog_put W S i y hy m (by omega) fun j h1 h2 => hj j (by omega) h2
      by_cases hk : y ∈ keys (W m)
      · have : (S m || m == i) = false := by rw [hj m (by omega) (by omega) hk]; simp [he]
        rw [if_neg (by simp [this])]
        exact ih
      · have hkn := getK_keys (W m) y hk
        split
        · rw [getK_append, hkn]; exact ih
        · exact ih

/-- The same state, however its slots and its objects are listed. -/
def St.Eqo (s s' : St) : Prop := s.n = s'.n ∧ (∀ x, getK s.obs x = getK s'.obs x) ∧ s.next = s'.next ∧ ∀ x, getK s.env x = getK s'.env x
theorem Sat.eqo {k own obs obs' w} (h : Sat k own obs w) (e : ∀ x, getK obs x = getK obs' x) : Sat k own obs' w :=
  ⟨h.mem, fun i ob hi => h.ob i ob (by rw [e]; exact hi), fun i j x y hh g b hx hy => h.apart i j x y hh g b (by rw [e]; exact hx) (by rw [e]; exact hy)⟩
theorem Sim.eqo {k own s s' a w} (h : Sim k own s a w) (e : s.Eqo s') : Sim k own s' a w :=
  ⟨h.sat.eqo e.2.1, h.defers, by rw [← e.1]; exact h.size, fun x d hx => by rw [← e.1]; exact h.env x d (by rw [e.2.2.2 x]; exact hx), by rw [← e.2.2.1]; exact h.hdr⟩

-- values that name known objects alone
def Good (ρ : Nat → Nat) (M : Nat) (d : D) : Prop := d.ren ρ = d ∧ d.under M = true
theorem good_list {ρ M} {cs : List D} {k : Kr} {vs : List Value} (hl : cs.length = vs.length) (ih : ∀ (j : Nat) (d : D), cs[j]? = some d → Good ρ M d) : cs.map (fun d => d.ren ρ) = cs ∧ (cs.map fun d => d.under M).all id = true := by
  refine ⟨?_, ?_⟩
  · refine List.ext_getElem? fun j => ?_
    rw [List.getElem?_map]
    cases hj : cs[j]? with
    | none => rfl
    | some d => simp [(ih j d hj).1]
  · simp only [List.all_map, List.all_eq_true]
    intro d hd
    obtain ⟨j, hj⟩ := List.getElem?_of_mem hd
    exact (ih j d hj).2
theorem Rep.good {ρ : Nat → Nat} {M : Nat} {k : Kr} (hk : ∀ i h, k.hdr i = some h → ρ i = i ∧ i < M) {d : D} {v : Value} (h : Rep k d v) : Good ρ M d := by
  induction h with
  | u x v h => exact ⟨by simp [D.ren], by simp [D.under]⟩
  | any v => exact ⟨by simp [D.ren], by simp [D.under]⟩
  | ptr i off b c h => obtain ⟨h1, h2⟩ := hk _ _ h; exact ⟨by simp [D.ren, h1], by simp [D.under, h2]⟩
  | vec i len h hh => obtain ⟨h1, h2⟩ := hk _ _ hh; exact ⟨by simp [D.ren, h1], by simp [D.under, h2]⟩
  | mp i b c h => obtain ⟨h1, h2⟩ := hk _ _ h; exact ⟨by simp [D.ren, h1], by simp [D.under, h2]⟩
  | elt i sz idx off b c h => obtain ⟨h1, h2⟩ := hk _ _ h; exact ⟨by simp [D.ren, h1], by simp [D.under, h2]⟩
  | fnc f caps vs hl hr ih => obtain ⟨h1, h2⟩ := good_list (k := k) hl ih; exact ⟨by rw [D.ren, h1], by rw [D.under]; exact h2⟩
  | agg cells vs hl hr ih => obtain ⟨h1, h2⟩ := good_list (k := k) hl ih; exact ⟨by rw [D.ren, h1], by rw [D.under]; exact h2⟩
  | tup cells vs hl hr ih => obtain ⟨h1, h2⟩ := good_list (k := k) hl ih; exact ⟨by rw [D.ren, h1], by rw [D.under]; exact h2⟩
theorem Good.agg {ρ M cs} (h : Good ρ M (.agg cs)) : ∀ c ∈ cs, Good ρ M c := by
  intro c hc
  obtain ⟨h1, h2⟩ := h
  rw [D.ren] at h1
  rw [D.under] at h2
  obtain ⟨j, hj⟩ := List.getElem?_of_mem hc
  have e : cs.map (fun d => d.ren ρ) = cs := by injection h1
  refine ⟨?_, ?_⟩
  · have := congrArg (·[j]?) e
    simp [hj] at this
    exact this
  · simp only [List.all_map, List.all_eq_true] at h2
    exact h2 c hc
theorem ObOK.good {ρ M k own w i ob} (hk : ∀ i h, k.hdr i = some h → ρ i = i ∧ i < M) (h : ObOK k own w i ob) : ob.all (Good ρ M) := by
  cases ob with
  | it => trivial
  | map kk ag es =>
    obtain ⟨b, c, ents, clock, es0, _, _, _, hpm, hm, _⟩ := h.map
    intro p hp d hd
    replace hp := hpm.mem_iff.2 hp
    obtain ⟨q, hq⟩ := List.getElem?_of_mem hp
    obtain ⟨j, hj⟩ := List.getElem?_of_mem hd
    obtain ⟨en, _, _, hv⟩ := hm.ent q p hq
    unfold MV at hv
    split at hv
    · obtain ⟨vs, _, _, h3⟩ := hv
      exact (h3 j d hj).2.good hk
    · obtain ⟨x, h1, h2⟩ := hv
      rw [h1] at hd
      simp at hd
      subst hd
      exact h2.2.good hk
  | box cells =>
    obtain ⟨b, c, vs, t, _, _, _, _, hc, _⟩ := h.box
    intro c hm
    obtain ⟨j, hj⟩ := List.getElem?_of_mem hm
    exact (hc j c hj).2.good hk
  | vec e sz rows =>
    obtain ⟨_, xs, _, _, _, _, hc, _⟩ := h.vec
    intro r hr c hm
    obtain ⟨q, hq⟩ := List.getElem?_of_mem hr
    obtain ⟨j, hj⟩ := List.getElem?_of_mem hm
    exact (hc q r hq j c hj).2.good hk
theorem Ob.all_le {ρ M ob} (h : Ob.all (Good ρ M) ob) : Ob.le ρ ob ob ∧ ob.under M = true := by
  have le : ∀ c, Good ρ M c → D.le ρ c c := fun c hc => .inr (.inl hc.1.symm)
  cases ob with
  | it => exact ⟨⟨rfl, rfl, rfl, rfl, rfl⟩, rfl⟩
  | map kk ag es =>
    refine ⟨⟨rfl, rfl, rfl, fun i p p' hi hi' => ?_⟩, List.all_eq_true.2 fun p hp => List.all_eq_true.2 fun c hc => (h p hp c hc).2⟩
    rw [hi] at hi'
    cases hi'
    refine ⟨rfl, fun j c c' hj hj' => ?_⟩
    rw [hj] at hj'
    cases hj'
    exact le c (h p (List.mem_of_getElem? hi) c (List.mem_of_getElem? hj))
  | box cs =>
    refine ⟨⟨rfl, fun j c c' hj hj' => ?_⟩, List.all_eq_true.2 fun c hc => (h c hc).2⟩
    rw [hj] at hj'
    cases hj'
    exact le c (h c (List.mem_of_getElem? hj))
  | vec e sz rows =>
    refine ⟨⟨rfl, rfl, Nat.le_refl _, fun i r r' hi hi' => ?_⟩, List.all_eq_true.2 fun r hr => List.all_eq_true.2 fun c hc => (h r hr c hc).2⟩
    rw [hi] at hi'
    cases hi'
    refine ⟨rfl, fun j c c' hj hj' => ?_⟩
    rw [hj] at hj'
    cases hj'
    exact le c (h r (List.mem_of_getElem? hi) c (List.mem_of_getElem? hj))

def stW (ops : List Oper) (T : Nat → D) (W : Nat → Wr) (s : St) (M : Nat) (S : Nat → Bool) : St :=
  { n := s.n, env := envF T S ops 0 s.env, obs := applyW (wlog W S ops.length) s.obs, next := M }
/-- What an operation does at a state. -/
def Op1 (P : Program) (s : St) (op : Op) (dst : Option Tmp) (d : D) (W : Wr) (cr : Option Nat) (R : List Nat) : Prop :=
  (valD P s op (· = d) ∧ W = [] ∧ cr = none ∧ R = rdIds s op) ∨
  ∃ e, effD P s op (· = e) ∧ R = rdIds s op ∧ match e.nw with
    | none => dst = none ∧ W = e.U ∧ cr = none
    | some ob => ∃ x, cr = some x ∧ W = (x, some ob) :: e.U ∧ d = mkD e.how x
def OpG (P : Program) (all : Array Oper) (s : St) (o : Oper) (d : D) (W : Wr) (cr : Option Nat) (R : List Nat) : Prop :=
  match o.guard with
  | none => Op1 P s o.op o.dst d W cr R
  | some (j, want) => ∃ t, guardTmp all j = some t ∧ ((∃ b, getK s.env t = some (.u (.bool b)) ∧
    if b = want then Op1 P s o.op o.dst d W cr R else d = .un ∧ W = [] ∧ cr = none) ∨ (getK s.env t = some .un ∧ d = .un ∧ W = [] ∧ cr = none))

set_option maxHeartbeats 4000000 in
theorem V_draw2 {P Γ} {Q : Exit → St → Prop} {kt : Kt} {id : Nat} {ops : List Oper} {T : Nat → D} {W : Nat → Wr} {cr : Nat → Option Nat} {R : Nat → List Nat} {s : St} {M : Nat}
    (hm : P.follows .mixedOrders = true) (hord : ordOK ops = true) (hn0 : Γ.n0 ≤ s.next) (hM : s.next ≤ M)
    (hcr : ∀ i x, cr i = some x → s.next ≤ x ∧ x < M) (hcr1 : ∀ i j x, cr i = some x → cr j = some x → i = j)
    (hpair : ∀ i j, i < j → j < ops.length → befB ops ops.length i j = false → (∀ y ∈ keys (W i), y ∉ R j ∧ y ∉ keys (W j)) ∧ ∀ y ∈ keys (W j), y ∉ R i)
    (hval : ∀ i o, ops[i]? = some o → putOK o.dst s ∧ OpG P ops.toArray (stW ops T W s M fun j => decide (j < i)) o (T i) (W i) (cr i) (R i))
    (hfin : ∃ s', (stW ops T W s M fun _ => true).Eqo s' ∧ RunK P Γ Q kt .normal s') : V P Γ (.region id ops.toArray true) s (RunK P Γ Q kt) := by
  intro K a w hin hs
  refine wp_region_any hm ?_
  have hin0 : In Γ K { w with drawn := w.drawn + 1 } := ⟨hin.le, hin.none0, hin.memNew, hin.fresh, hin.os, hin.tape, hin.output, hin.size, hin.block⟩
  have hs0 : Sim K Γ.own s a { w with drawn := w.drawn + 1 } := ⟨⟨hs.sat.mem, fun i ob hi => by
      obtain ⟨h, h1, h2, h3⟩ := hs.sat.ob i ob hi
      exact ⟨h, h1, h2, h3.keep (.refl _) fun b e => rfl⟩, hs.sat.apart⟩, hs.defers, hs.size, hs.env, hs.hdr⟩
  generalize ({ w with drawn := w.drawn + 1 } : World) = w0 at hin0 hs0
  have key : ∀ (fuel : Nat) (listed : Array Bool) (K : Kr) (a : Act) (w : World), listed.size = ops.length → (listed.toList.filter (! ·)).length ≤ fuel →
      (∀ j y, ops[j]? = some y → listed.getD j false = true → ∀ p ∈ dirPred y, listed.getD p false = true) → In Γ K w → Sim K Γ.own (stW ops T W s M fun j => listed.getD j false) a w →
      (∀ j x, j < ops.length → listed.getD j false = false → cr j = some x → K.hdr x = none) →
      wpAny P .any ops.toArray (VPost Γ (RunK P Γ Q kt)) fuel listed a w := by
    have allDone : ∀ (listed : Array Bool) (K : Kr) (a : Act) (w : World), (∀ j, j < ops.length → listed.getD j false = true) → In Γ K w → Sim K Γ.own (stW ops T W s M fun j => listed.getD j false) a w →
        ∃ K' s', In Γ K' w ∧ Sim K' Γ.own s' a w ∧ RunK P Γ Q kt .normal s' := fun listed K a w hall hin hs => by
      obtain ⟨s', he, hfin⟩ := hfin
      refine ⟨K, _, hin, Sim.eqo (hs.eqo ?_) he, hfin⟩
      refine ⟨rfl, fun x => ?_, rfl, fun x => ?_⟩
      · simp only [stW, getK_applyW]
        rw [wlog_congr W _ (fun _ => true) x ops.length fun j hj _ => hall j hj]
      · exact envF_congr T _ _ x ops 0 s.env s.env rfl fun j o hj _ => by
          have hl := (List.getElem?_eq_some_iff.1 hj).1
          simp only [Nat.zero_add]
          exact hall j hl
    have least : ∀ (listed : Array Bool), listed.size = ops.length → ∀ i, i < ops.length → listed.getD i false = false → ∃ i0, i0 ∈ Region.ready .any ops.toArray listed := fun listed hsz i hi hu => by
      induction i using Nat.strongRecOn with
      | _ i ih =>
        have ho : ops[i]? = some ops[i] := List.getElem?_eq_getElem hi
        by_cases hp : ∀ p ∈ dirPred ops[i], listed.getD p false = true
        · refine ⟨i, mem_ready.2 ⟨?_, ops[i], by simp, fun e he hb => hp e.on ?_⟩⟩
          · have hi' : i < listed.size := by omega
            simp [hi'] at hu ⊢
            exact hu
          · simp only [dirPred, List.mem_map, List.mem_filter]
            exact ⟨e, ⟨by simpa using he, hb⟩, rfl⟩
        · simp only [Classical.not_forall] at hp
          obtain ⟨p, hpm, hpu⟩ := hp
          have hlt := (ord_pred hord ho).1 p hpm
          exact ih p hlt (by omega) (by simpa using hpu)
    intro fuel
    induction fuel with
    | zero =>
      intro listed K a w hsz hcnt hcl hin hs _
      have hall : ∀ j, j < ops.length → listed.getD j false = true := fun j hj => by
        have hj' : j < listed.size := by omega
        have h0 : (listed.toList.filter (! ·)) = [] := List.eq_nil_of_length_eq_zero (by omega)
        have := (List.filter_eq_nil_iff.1 h0) listed[j] (by simp)
        simp only [Bool.not_eq_true', Bool.not_eq_false] at this
        simp [hj', this]
      refine ⟨?_, .inl (allDone listed K a w hall hin hs)⟩
      refine List.eq_nil_iff_forall_not_mem.2 fun i hi => ?_
      obtain ⟨h1, o, ho, _⟩ := mem_ready.1 hi
      have hl : i < ops.length := by
        have := (Array.getElem?_eq_some_iff.1 ho).1
        simpa using this
      have := hall i hl
      have hi' : i < listed.size := by omega
      simp [hi'] at h1 this
      rw [h1] at this
      cases this
    | succ fuel ih =>
      intro listed K a w hsz hcnt hcl hin hs hfr
      refine ⟨fun hnil => .inl (allDone listed K a w (fun j hj => ?_) hin hs), fun i hi => ?_⟩
      · cases hu : listed.getD j false with
        | true => rfl
        | false =>
          obtain ⟨i0, h0⟩ := least listed hsz j hj hu
          rw [hnil] at h0
          cases h0
      · obtain ⟨hun, o, ho, hall⟩ := mem_ready.1 hi
        have ho' : ops[i]? = some o := by simpa using ho
        have hil := (List.getElem?_eq_some_iff.1 ho').1
        have hil' : i < listed.size := by omega
        have hunf : listed.getD i false = false := by simp [hil'] at hun ⊢; exact hun
        have hpred : ∀ p ∈ dirPred o, listed.getD p false = true := fun p hp => by
          simp only [dirPred, List.mem_map, List.mem_filter] at hp
          obtain ⟨e, ⟨he, hb⟩, rfl⟩ := hp
          exact hall e (by simpa using he) hb
        obtain ⟨hpo, hv⟩ := hval i o ho'
        have bef1 : ∀ j, befB ops ops.length j i = true → listed.getD j false = true := fun j hb => bef_closed hcl _ j i o ho' hpred hb
        have bef2 : ∀ j x, ops[j]? = some x → befB ops ops.length i j = true → listed.getD j false = false := fun j x hj hb => by
          cases hu : listed.getD j false with
          | false => rfl
          | true =>
            have := bef_closed hcl _ i j x hj (hcl j x hj hu) hb
            rw [hunf] at this
            cases this
        -- who writes a slot that this operation looks at, or writes
        have before : ∀ j x, ops[j]? = some x → j < i → meets ops.toArray x o = true ∨ meets ops.toArray o x = true → listed.getD j false = true := fun j x hj hlt hmm =>
          bef1 j ((ord_pred hord ho').2.2 j x hlt hj hmm)
        have behind : ∀ j x, ops[j]? = some x → i < j → meets ops.toArray x o = true ∨ meets ops.toArray o x = true → listed.getD j false = false := fun j x hj hlt hmm =>
          bef2 j x hj ((ord_pred hord hj).2.2 i o hlt ho' hmm.symm)
        have agree : ∀ t, t ∈ o.looksAt ops.toArray → getK (envF T (fun j => listed.getD j false) ops 0 s.env) t = getK (envF T (fun j => decide (j < i)) ops 0 s.env) t := fun t ht => by
          refine envF_congr T _ _ t ops 0 s.env s.env rfl fun j x hj hx => ?_
          simp only [Nat.zero_add]
          have hmm : meets ops.toArray x o = true := by simp [meets, hx, ht]
          rcases Nat.lt_trichotomy j i with h | h | h
          · rw [before j x hj h (.inl hmm)]; simp [h]
          · subst h; rw [hunf]; simp
          · rw [behind j x hj h (.inl hmm)]; simp; omega
        have hopd : ∀ x ∈ o.op.operands, opd (stW ops T W s M fun j => decide (j < i)) x = opd (stW ops T W s M fun j => listed.getD j false) x := fun x hx => by
          cases x with
          | tmp t =>
            simp only [opd, St.at, stW]
            rw [agree t (List.mem_append_left _ (List.mem_filterMap.2 ⟨.tmp t, by simpa using hx, rfl⟩))]
          | _ => rfl
        -- who changes an object that this operation looks at
        have hloc : ∀ y ∈ R i, getK (stW ops T W s M fun j => decide (j < i)).obs y = getK (stW ops T W s M fun j => listed.getD j false).obs y := fun y hy => by
          simp only [stW, getK_applyW]
          rw [wlog_congr W (fun j => decide (j < i)) (fun j => listed.getD j false) y ops.length fun j hj hk => ?_]
          rcases Nat.lt_trichotomy j i with h | h | h
          · have hb : befB ops ops.length j i = true := by
              cases hb : befB ops ops.length j i with
              | true => rfl
              | false => exact absurd hy (((hpair j i h hil hb).1 y hk).1)
            rw [bef1 j hb]
            simp [h]
          · subst h; rw [hunf]; simp
          · have hb : befB ops ops.length i j = true := by
              cases hb : befB ops ops.length i j with
              | true => rfl
              | false => exact absurd hy ((hpair i j h hj hb).2 y hk)
            rw [bef2 j _ (List.getElem?_eq_getElem hj) hb]
            simp; omega
        have hlast : ∀ y ∈ keys (W i), ∀ j, j < ops.length → i < j → y ∈ keys (W j) → listed.getD j false = false := fun y hy j hj hlt hk => by
          have hb : befB ops ops.length i j = true := by
            cases hb : befB ops ops.length i j with
            | true => rfl
            | false => exact absurd hk ((hpair i j hlt hj hb).1 y hy).2
          exact bef2 j _ (List.getElem?_eq_getElem hj) hb
        have hS : (fun j => (listed.setIfInBounds i true).getD j false) = fun j => listed.getD j false || j == i := funext fun j => by
          by_cases hji : j = i
          · subst hji; simp [hil']
          · simp [Array.getElem?_setIfInBounds_ne (Ne.symm hji), hji]
        -- the slots behind this operation
        have henv : ∀ (x : Nat), o.dst = some x → getK (envF T (fun j => listed.getD j false || j == i) ops 0 s.env) x = some (T i) := fun x hdx =>
          envF_put T _ i x ops 0 s.env i o ho' (by omega) hdx fun j o' hj hlt hd' => by
            rw [Nat.zero_add]
            exact behind j o' hj hlt (.inl (by simp [meets, hd', hdx]))
        have henv' : ∀ (x : Nat), o.dst ≠ some x → getK (envF T (fun j => listed.getD j false || j == i) ops 0 s.env) x = getK (envF T (fun j => listed.getD j false) ops 0 s.env) x := fun x hdx =>
          envF_congr T _ (fun j => listed.getD j false) x ops 0 s.env s.env rfl fun j o' hj hd' => by
            simp only [Nat.zero_add]
            have : j ≠ i := fun e => by subst e; rw [ho'] at hj; cases hj; exact hdx hd'
            simp [this]
        have go : ∀ K' a' w', In Γ K' w' → Sim K' Γ.own (stW ops T W s M fun j => listed.getD j false || j == i) a' w' →
            (∀ j x, j < ops.length → (listed.getD j false || j == i) = false → cr j = some x → K'.hdr x = none) →
            wpAny P .any ops.toArray (VPost Γ (RunK P Γ Q kt)) fuel (listed.setIfInBounds i true) a' w' := fun K' a' w' h1 h2 h3 => by
          have hS' : ∀ j, (listed.setIfInBounds i true).getD j false = (listed.getD j false || j == i) := fun j => congrFun hS j
          refine ih (listed.setIfInBounds i true) K' a' w' (by simp [hsz]) ?_ (fun j y hj hSj p hp => ?_) h1 (by rw [hS]; exact h2) (fun j x hj hu => h3 j x hj (by rw [← hS']; exact hu))
          · have cnt : ∀ (l : List Bool) (n : Nat), l[n]? = some false → ((l.set n true).filter (! ·)).length + 1 = (l.filter (! ·)).length := by
              intro l
              induction l with
              | nil => intro n h; simp at h
              | cons b l ih =>
                intro n h
                cases n with
                | zero => simp at h; subst h; simp
                | succ n =>
                  have := ih n (by simpa using h)
                  cases b <;> simp at this ⊢ <;> omega
            have := cnt listed.toList i (by
              rw [Array.getElem?_toList, Array.getElem?_eq_getElem hil']
              simp [hil'] at hunf
              rw [hunf])
            rw [Array.toList_setIfInBounds]
            omega
          · rw [hS'] at hSj ⊢
            simp only [Bool.or_eq_true, beq_iff_eq] at hSj ⊢
            rcases hSj with hSj | rfl
            · exact .inl (hcl j y hj hSj p hp)
            · rw [ho'] at hj
              cases hj
              exact .inl (hpred p hp)
        -- an operation that changes nothing
        have next : W i = [] → ∀ K' v w', In Γ K' w' → K.le K' → K'.hdr = K.hdr → Sat K' Γ.own (stW ops T W s M fun j => listed.getD j false).obs w' → Rep K' (T i) v →
            wpAny P .any ops.toArray (VPost Γ (RunK P Γ Q kt)) fuel (listed.setIfInBounds i true) (a.put o.dst v) w' := fun hW K' v w' h1 h2 h3 h4 h5 => by
          refine go K' _ w' h1 ?_ fun j x hj hu hc => by
            rw [h3]
            simp only [Bool.or_eq_false_iff] at hu
            exact hfr j x hj hu.1 hc
          have hdef : (a.put o.dst v).defers = Γ.own.dfr := by cases o.dst <;> exact hs.defers
          have hsize : (a.put o.dst v).tmps.size = s.n := by
            have hsz2 : a.tmps.size = s.n := hs.size
            cases o.dst <;> simp [Act.put, hsz2]
          refine ⟨h4.eqo fun y => ?_, hdef, hsize, fun x d hx => ?_, fun j hj => by rw [h3]; exact hs.hdr j hj⟩
          · simp only [stW, getK_applyW]
            rw [wlog_congr W (fun j => listed.getD j false) (fun j => listed.getD j false || j == i) y ops.length fun j hj hk => ?_]
            by_cases hji : j = i
            · subst hji; rw [hW] at hk; cases hk
            · simp [hji]
          · simp only [stW] at hx
            by_cases hdx : o.dst = some x
            · rw [henv x hdx] at hx
              cases hx
              have hlt : x < s.n := by rw [hdx] at hpo; exact hpo
              refine ⟨hlt, ?_⟩
              have hsz' : a.tmps.size = s.n := hs.size
              rw [hdx]
              simpa [Act.put, hsz', hlt] using h5
            · rw [henv' x hdx] at hx
              obtain ⟨g1, g2⟩ := hs.env x d hx
              refine ⟨g1, ?_⟩
              have e : (a.put o.dst v).tmps.getD x undef = a.tmps.getD x undef := by
                cases hd : o.dst with
                | none => rfl
                | some y =>
                  have hne : y ≠ x := fun e => hdx (by rw [hd, e])
                  simp [Act.put, Array.getElem?_setIfInBounds_ne hne]
              rw [e]
              exact g2.mono h2
        unfold wpOp
        rw [ho]
        simp only
        have two : (Region.wanted o (yielded ops.toArray a.tmps) = true ∧ Op1 P (stW ops T W s M fun j => decide (j < i)) o.op o.dst (T i) (W i) (cr i) (R i)) ∨ (Region.wanted o (yielded ops.toArray a.tmps) = false ∧ T i = .un ∧ W i = []) := by
          unfold OpG at hv
          split at hv
          · rename_i hg
            exact .inl ⟨by simp [Region.wanted, hg], hv⟩
          · rename_i j want hg
            obtain ⟨t, ht, hv⟩ := hv
            have lift : ∀ dd, getK (stW ops T W s M fun j => decide (j < i)).env t = some dd → getK (stW ops T W s M fun j => listed.getD j false).env t = some dd := fun dd hb => by
              simp only [stW] at hb ⊢
              rw [agree t (by
                refine List.mem_append_right _ ?_
                unfold guardTmp at ht
                simp only [hg]
                rw [ht]
                simp)]
              exact hb
            rcases hv with ⟨b, hb, hv⟩ | ⟨hb, hv⟩
            · have hb' := lift _ hb
              obtain ⟨hlt, hr⟩ := hs.getK hb'
              have hbv := rep_bool hr
              have hyd : yielded ops.toArray a.tmps j = some b := by
                unfold yielded
                unfold guardTmp at ht
                rw [ht]
                simp only [Option.bind_some]
                have : a.tmps[t]? = some (.bool b) := by
                  rw [Array.getElem?_eq_getElem hlt]
                  simp [hlt] at hbv
                  rw [hbv]
                rw [this]
              by_cases hbw : b = want
              · rw [if_pos hbw] at hv
                exact .inl ⟨by simp [Region.wanted, hg, hyd, hbw], hv⟩
              · rw [if_neg hbw] at hv
                exact .inr ⟨by simp [Region.wanted, hg, hyd, hbw], hv.1, hv.2.1⟩
            · have hb' := lift _ hb
              obtain ⟨hlt, hr⟩ := hs.getK hb'
              have hbv := rep_oth hr
              have hyd : yielded ops.toArray a.tmps j = none := by
                unfold yielded
                unfold guardTmp at ht
                rw [ht]
                simp only [Option.bind_some]
                have : a.tmps[t]? = some undef := by
                  rw [Array.getElem?_eq_getElem hlt]
                  simp [hlt] at hbv
                  rw [hbv]
                rw [this]
                rfl
              exact .inr ⟨by simp [Region.wanted, hg, hyd], hv.1, hv.2.1⟩
        rcases two with ⟨hw, hv⟩ | ⟨hw, hv⟩
        · rw [if_pos hw]
          rcases hv with ⟨hv, hW, hcn, hR⟩ | ⟨e, he, hR, hcase⟩
          · replace hv := valD_loc (s := stW ops T W s M fun j => decide (j < i)) (s' := stW ops T W s M fun j => listed.getD j false) (by rw [← hR]; exact hloc) hopd hv
            exact .inl (valD_run hv hin hs fun K' v w' h1 h2 h3 h4 h5 => next hW K' v w' h1 h2 h3 h4 h5)
          · -- an operation that changes or makes an object
            replace he := effD_loc (s := stW ops T W s M fun j => decide (j < i)) (s' := stW ops T W s M fun j => listed.getD j false) (by rw [← hR]; exact hloc) hopd he
            let un : Nat → Prop := fun y => ∃ j, j < ops.length ∧ (listed.getD j false || j == i) = false ∧ cr j = some y
            let ρ : Nat → Nat := fun y => open Classical in if cr i = some y then M else if un y then M + 1 + y else y
            have hknown : ∀ y h, K.hdr y = some h → ρ y = y ∧ y < M := fun y h hy => by
              have h1 : cr i ≠ some y := fun e => by rw [hfr i y hil hunf e] at hy; cases hy
              have h2 : ¬ un y := fun ⟨j, hj, hu, hc⟩ => by
                simp only [Bool.or_eq_false_iff] at hu
                rw [hfr j y hj hu.1 hc] at hy
                cases hy
              refine ⟨by simp only [ρ]; rw [if_neg h1, if_neg h2], ?_⟩
              rcases Nat.lt_or_ge y M with h | h
              · exact h
              · rw [hs.hdr y h] at hy; cases hy
            have hobs : ∀ y ob, getK (stW ops T W s M fun j => listed.getD j false).obs y = some ob → (ρ y = y ∧ y < M) ∧ ob.all (Good ρ M) := fun y ob hy => by
              have hok := hs.sat.ob y ob hy
              obtain ⟨h, h1, _⟩ := hok
              exact ⟨hknown y h h1, (hs.sat.ob y ob hy).good hknown⟩
            have hgood := effD_all (g := Good ρ M) (fun _ => ⟨by simp [D.ren], by simp [D.under]⟩) (fun cs h => h.agg) he (fun x hx => (opd_rep hs x).good hknown) (fun y ob hy => (hobs y ob hy).2)
            obtain ⟨e', he', ⟨rfl, hgU, hgN⟩⟩ := Lin.effD.2 _ hgood
            have he2 : effD P (stW ops T W s M fun j => listed.getD j false) o.op fun e => putOK o.dst (stW ops T W s M fun j => listed.getD j false) ∧ (e.nw = none → o.dst = none) ∧
                ((stW ops T W s M fun j => listed.getD j false).effS e o.dst) = (stW ops T W s M fun j => listed.getD j false).effS e' o.dst :=
              Lin.effD.1 _ _ (fun e hee => by
                subst hee
                refine ⟨hpo, fun hn => ?_, rfl⟩
                rw [hn] at hcase
                exact hcase.1) he
            refine .inl (hstep_effG (k := fun s' => s' = (stW ops T W s M fun j => listed.getD j false).effS e' o.dst) (effD_hstep he2) K a w hin hs _ _ (fun K' a' w' s' h1 h2 h3 => ?_) fun ch K' a' w' s' h1 h2 h3 => .inl ⟨K', s', h1, h2, h3⟩)
            subst h3
            have hle : St.Le Γ.n0 ρ ((stW ops T W s M fun j => listed.getD j false).effS e' o.dst) (stW ops T W s M fun j => listed.getD j false || j == i) := by
              have hWi : ∀ y, y ∈ keys (W i) → getK (wlog W (fun j => listed.getD j false || j == i) ops.length) y = getK (W i) y := fun y hy =>
                wlog_put W _ i y hy ops.length hil fun j hj hlt hk => hlast y hy j hj hlt hk
              have hWn : ∀ y, y ∉ keys (W i) → getK (wlog W (fun j => listed.getD j false || j == i) ops.length) y = getK (wlog W (fun j => listed.getD j false) ops.length) y := fun y hy =>
                wlog_congr W _ _ y ops.length fun j hj hk => by
                  by_cases hji : j = i
                  · subst hji; exact absurd hk hy
                  · simp [hji]
              have hinj : ∀ y1 y2, y1 < M → y2 < M → ρ y1 = ρ y2 → y1 = y2 := fun y1 y2 g1 g2 hr => by
                simp only [ρ] at hr
                by_cases c1 : cr i = some y1 <;> by_cases c2 : cr i = some y2
                · rw [c1] at c2; cases c2; rfl
                · rw [if_pos c1, if_neg c2] at hr
                  split at hr <;> omega
                · rw [if_neg c1, if_pos c2] at hr
                  split at hr <;> omega
                · rw [if_neg c1, if_neg c2] at hr
                  split at hr <;> split at hr <;> omega
              have hobs2 : ∀ y ob', getK (stW ops T W s M fun j => listed.getD j false || j == i).obs y = some ob' → y < M ∧
                  ∃ ob, getK ((stW ops T W s M fun j => listed.getD j false).effS e' o.dst).obs (ρ y) = some ob ∧ Ob.le ρ ob ob' ∧ ob'.under M = true := fun y ob' hy => by
                simp only [stW, getK_applyW] at hy
                cases hn : e'.nw with
                | none =>
                  rw [hn] at hcase
                  obtain ⟨hd0, hWU, hcn⟩ := hcase
                  have hob : ∀ z, getK ((stW ops T W s M fun j => listed.getD j false).effS e' o.dst).obs z = match getK (W i) z with | some x => x | none => getK (stW ops T W s M fun j => listed.getD j false).obs z := fun z => by
                    simp only [St.effS, hn, getK_applyW, hWU]
                    rfl
                  by_cases hk : y ∈ keys (W i)
                  · rw [hWi y hk] at hy
                    obtain ⟨x, hx⟩ := getK_isKey (W i) y hk
                    rw [hx] at hy
                    simp only at hy
                    subst hy
                    have hmem : (y, some ob') ∈ e'.U := by
                      rw [← hWU]
                      have : ∀ (l : Wr), getK l y = some (some ob') → (y, some ob') ∈ l := by
                        intro l
                        induction l with
                        | nil => intro h; cases h
                        | cons p l ih =>
                          obtain ⟨k', d'⟩ := p
                          intro h
                          rw [getK_cons] at h
                          by_cases hyk : y = k'
                          · rw [if_pos hyk] at h; cases h; subst hyk; simp
                          · rw [if_neg hyk] at h; exact List.mem_cons_of_mem _ (ih h)
                      exact this _ hx
                    obtain ⟨hga, o0, ho0⟩ := hgU _ hmem ob' rfl
                    obtain ⟨⟨hr, hlt⟩, _⟩ := hobs y o0 ho0
                    refine ⟨hlt, ob', ?_, (Ob.all_le hga).1, (Ob.all_le hga).2⟩
                    rw [hr, hob, hx]
                  · rw [hWn y hk] at hy
                    obtain ⟨⟨hr, hlt⟩, hga⟩ := hobs y ob' (by simp only [stW, getK_applyW]; exact hy)
                    refine ⟨hlt, ob', ?_, (Ob.all_le hga).1, (Ob.all_le hga).2⟩
                    rw [hr, hob, getK_keys (W i) y hk]
                    simp only [stW, getK_applyW]
                    exact hy
                | some nb =>
                  rw [hn] at hcase
                  obtain ⟨x0, hcx, hWU, hTi⟩ := hcase
                  have hx0 := hcr i x0 hcx
                  have hob : ∀ z, z ≠ M → getK ((stW ops T W s M fun j => listed.getD j false).effS e' o.dst).obs z = match getK e'.U z with | some x => x | none => getK (stW ops T W s M fun j => listed.getD j false).obs z := fun z hz => by
                    have : ∀ (q : St) (d : D), (q.put o.dst d).obs = q.obs := fun q d => by cases o.dst <;> rfl
                    simp only [St.effS, hn, this, getK_cons]
                    rw [if_neg (by simpa [stW] using hz), getK_applyW]
                    rfl
                  have hobM : getK ((stW ops T W s M fun j => listed.getD j false).effS e' o.dst).obs M = some nb := by
                    have : ∀ (q : St) (d : D), (q.put o.dst d).obs = q.obs := fun q d => by cases o.dst <;> rfl
                    simp only [St.effS, hn, this, getK_cons]
                    rw [if_pos (by simp [stW])]
                  by_cases hyx : y = x0
                  · subst hyx
                    have hk : y ∈ keys (W i) := by rw [hWU]; simp [keys]
                    rw [hWi y hk, hWU, getK_cons, if_pos rfl] at hy
                    simp only at hy
                    cases hy
                    have hga := hgN ob' hn
                    refine ⟨hx0.2, ob', ?_, (Ob.all_le hga).1, (Ob.all_le hga).2⟩
                    simp only [ρ]
                    rw [if_pos hcx]
                    exact hobM
                  · by_cases hk : y ∈ keys (W i)
                    · rw [hWi y hk, hWU, getK_cons, if_neg hyx] at hy
                      have hk' : y ∈ e'.U.map (·.1) := by
                        rw [hWU] at hk
                        simp only [keys, List.map_cons, List.mem_cons] at hk
                        exact hk.resolve_left hyx
                      obtain ⟨x, hx⟩ := getK_isKey e'.U y hk'
                      rw [hx] at hy
                      simp only at hy
                      subst hy
                      have hmem : (y, some ob') ∈ e'.U := by
                        have : ∀ (l : Wr), getK l y = some (some ob') → (y, some ob') ∈ l := by
                          intro l
                          induction l with
                          | nil => intro h; cases h
                          | cons p l ih =>
                            obtain ⟨k', d'⟩ := p
                            intro h
                            rw [getK_cons] at h
                            by_cases hyk : y = k'
                            · rw [if_pos hyk] at h; cases h; subst hyk; simp
                            · rw [if_neg hyk] at h; exact List.mem_cons_of_mem _ (ih h)
                        exact this _ hx
                      obtain ⟨hga, o0, ho0⟩ := hgU _ hmem ob' rfl
                      obtain ⟨⟨hr, hlt⟩, _⟩ := hobs y o0 ho0
                      refine ⟨hlt, ob', ?_, (Ob.all_le hga).1, (Ob.all_le hga).2⟩
                      rw [hr, hob y (by omega), hx]
                    · rw [hWn y hk] at hy
                      obtain ⟨⟨hr, hlt⟩, hga⟩ := hobs y ob' (by simp only [stW, getK_applyW]; exact hy)
                      refine ⟨hlt, ob', ?_, (Ob.all_le hga).1, (Ob.all_le hga).2⟩
                      have hk' : y ∉ e'.U.map (·.1) := by
                        rw [hWU] at hk
                        simp only [keys, List.map_cons, List.mem_cons, not_or] at hk
                        exact hk.2
                      rw [hr, hob y (by omega), getK_keys e'.U y hk']
                      simp only [stW, getK_applyW]
                      exact hy
              have henv2 : ∀ x d', getK (stW ops T W s M fun j => listed.getD j false || j == i).env x = some d' →
                  (D.le ρ (((stW ops T W s M fun j => listed.getD j false).effS e' o.dst).at x) d' ∧ d'.under M = true) ∧ x < s.n := fun x d' hx => by
                simp only [stW] at hx
                by_cases hdx : o.dst = some x
                · rw [henv x hdx] at hx
                  cases hx
                  have hlt : x < s.n := by rw [hdx] at hpo; exact hpo
                  cases hn : e'.nw with
                  | none =>
                    rw [hn] at hcase
                    rw [hcase.1] at hdx
                    cases hdx
                  | some nb =>
                    rw [hn] at hcase
                    obtain ⟨x0, hcx, hWU, hTi⟩ := hcase
                    have hx0 := hcr i x0 hcx
                    have hρ : ρ x0 = M := by simp only [ρ]; rw [if_pos hcx]
                    refine ⟨⟨.inr (.inl ?_), ?_⟩, hlt⟩
                    · rw [hTi]
                      simp only [St.effS, hn, hdx, St.put, St.at, getK_cons, if_true, Option.getD_some]
                      cases e'.how <;> simp [mkD, D.ren, hρ, stW]
                    · rw [hTi]
                      cases e'.how <;> simp [mkD, D.under, hx0.2]
                · rw [henv' x hdx] at hx
                  obtain ⟨g1, g2⟩ := hs.env x d' hx
                  have hgd := g2.good hknown
                  have hat : ((stW ops T W s M fun j => listed.getD j false).effS e' o.dst).at x = d' := by
                    have : ∀ (q : St) (d : D), getK (q.put o.dst d).env x = getK q.env x := fun q d => by
                      cases hd : o.dst with
                      | none => rfl
                      | some y =>
                        have hne : ¬ x = y := fun e => hdx (by rw [hd, e])
                        simp only [St.put, getK_cons, if_neg hne]
                    simp only [St.at, St.effS]
                    cases hn : e'.nw with
                    | none => simp only [stW, hx]; rfl
                    | some nb => simp only [this, stW, hx]; rfl
                  rw [hat]
                  exact ⟨⟨.inr (.inl hgd.1.symm), hgd.2⟩, g1⟩
              refine ⟨?_, fun x d' hx => (henv2 x d' hx).1, fun x d' hx => ?_, hobs2, fun y1 y2 o1 o2 g1 g2 hr => hinj y1 y2 (hobs2 y1 o1 g1).1 (hobs2 y2 o2 g2).1 hr, fun j hj => ?_⟩
              · have : ∀ (q : St) (d : D), (q.put o.dst d).n = q.n := fun q d => by cases o.dst <;> rfl
                simp only [St.effS]
                cases e'.nw <;> simp only [this] <;> rfl
              · have : ∀ (q : St) (d : D), (q.put o.dst d).n = q.n := fun q d => by cases o.dst <;> rfl
                have e2 : ((stW ops T W s M fun j => listed.getD j false).effS e' o.dst).n = s.n := by
                  simp only [St.effS]
                  cases e'.nw <;> simp only [this] <;> rfl
                rw [e2]
                exact (henv2 x d' hx).2
              · have c1 : cr i ≠ some j := fun e => by have := (hcr i j e).1; omega
                have c2 : ¬ un j := fun ⟨q, _, _, hc⟩ => by have := (hcr q j hc).1; omega
                refine ⟨by simp only [ρ]; rw [if_neg c1, if_neg c2], ?_⟩
                show j < M
                omega
            obtain ⟨g1, g2⟩ := Sim.weak h1 h2 hle
            refine go _ a' w' g1 g2 fun j x hj hu hc => ?_
            simp only [Kr.ren]
            split
            · have c1 : cr i ≠ some x := fun e => by
                have := hcr1 i j x e hc
                subst this
                simp at hu
              have c2 : un x := ⟨j, hj, hu, hc⟩
              simp only [ρ]
              rw [if_neg c1, if_pos c2]
              refine h2.hdr _ ?_
              have : ∀ (q : St) (d : D), (q.put o.dst d).next = q.next := fun q d => by cases o.dst <;> rfl
              simp only [St.effS]
              cases e'.nw <;> simp only [this, stW] <;> omega
            · rfl
        · rw [if_neg (by rw [hw]; simp)]
          exact next hv.2 K undef w hin (.refl _) rfl hs.sat (by rw [hv.1]; exact .u _ _ (.oth _))
  have h0 : (fun j => (Array.replicate ops.toArray.size false).getD j false) = fun _ => false := funext fun j => by
    by_cases hj : j < ops.length <;> simp [hj]
  refine key _ _ K a w0 (by simp) (by simp) (fun j y hj hS => ?_) hin0 ?_ fun j x _ _ hc => hs.hdr x (hcr j x hc).1
  · have : (Array.replicate ops.toArray.size false).getD j false = false := congrFun h0 j
    rw [this] at hS
    cases hS
  · rw [h0]
    have none : ∀ (l : List Oper) (i : Nat) (e : List (Nat × D)), envF T (fun _ => false) l i e = e := by
      intro l
      induction l with
      | nil => intro i e; rfl
      | cons o l ih => intro i e; simp [envF, ih]
    have wn : ∀ m, wlog W (fun _ => false) m = [] := by
      intro m
      induction m with
      | zero => rfl
      | succ m ih => simp [wlog, ih]
    refine ⟨hs0.sat.eqo fun y => ?_, hs0.defers, hs0.size, fun x d hx => hs0.env x d ?_, fun y hy => hs0.hdr y (Nat.le_trans hM hy)⟩
    · simp only [stW, wn]; rfl
    · simp only [stW, none] at hx; exact hx
end Go.VL

/- The calculus of values: a statement of any order that makes or changes objects, evaluated step by step in the text's order. -/
namespace Go.VL
open Go

abbrev Ent := D × Wr × Option Nat × List Nat
def tT (E : Nat → Ent) (j : Nat) : D := (E j).1
def tW (E : Nat → Ent) (j : Nat) : Wr := (E j).2.1
def tC (E : Nat → Ent) (j : Nat) : Option Nat := (E j).2.2.1
def tR (E : Nat → Ent) (j : Nat) : List Nat := (E j).2.2.2
def cnt (E : Nat → Ent) : Nat → Nat
  | 0 => 0
  | i + 1 => cnt E i + if (tC E i).isSome then 1 else 0
abbrev Fp := List (List Nat × List Nat)
def tF (E : Nat → Ent) (n : Nat) : Fp := (List.range n).map fun j => (tR E j, keys (tW E j))

def Op2 (P : Program) (s : St) (o : O1) (e : Ent) : Prop :=
  match o.guard with
  | none => Op1 P s o.op o.dst e.1 e.2.1 e.2.2.1 e.2.2.2
  | some (t, want) => (∃ b, getK s.env t = some (.u (.bool b)) ∧ if b = want then Op1 P s o.op o.dst e.1 e.2.1 e.2.2.1 e.2.2.2 else e.1 = .un ∧ e.2.1 = [] ∧ e.2.2.1 = none) ∨
    (getK s.env t = some .un ∧ e.1 = .un ∧ e.2.1 = [] ∧ e.2.2.1 = none)
def St.app (s : St) (dst : Option Tmp) (e : Ent) : St :=
  ({ s with obs := applyW e.2.1 s.obs, next := s.next + if e.2.2.1.isSome then 1 else 0 } : St).put dst e.1
def chain2 (P : Program) : List O1 → St → Fp → (St → Fp → Prop) → Prop
  | [], s, fp, k => k s fp
  | o :: rest, s, fp, k => ∃ e : Ent, putOK o.dst s ∧ Op2 P s o e ∧ (∀ x, e.2.2.1 = some x → x = s.next) ∧ chain2 P rest (s.app o.dst e) (fp ++ [(e.2.2.2, keys e.2.1)]) k
def HD2 (P : Program) (l : List O1) (s : St) (fp : Fp) (C : Fp → Prop) (k : St → Prop) : Prop :=
  ∀ s0 : St, s0.Eqo s → chain2 P l s0 fp fun s1 fp => C fp ∧ ∃ s', s1.Eqo s' ∧ k s'

theorem St.Eqo.refl (s : St) : s.Eqo s := ⟨rfl, fun _ => rfl, rfl, fun _ => rfl⟩
theorem St.Eqo.trans {a b c : St} (h : a.Eqo b) (g : b.Eqo c) : a.Eqo c := ⟨h.1.trans g.1, fun x => (h.2.1 x).trans (g.2.1 x), h.2.2.1.trans g.2.2.1, fun x => (h.2.2.2 x).trans (g.2.2.2 x)⟩
theorem St.Eqo.put {s s' : St} (h : s.Eqo s') (x : Option Tmp) (d : D) : (s.put x d).Eqo (s'.put x d) := by
  cases x with
  | none => exact h
  | some x => exact ⟨h.1, h.2.1, h.2.2.1, fun y => by simp only [St.put, getK_cons, h.2.2.2 y]⟩
theorem opd_eqo {s s' : St} (h : s.Eqo s') (x : Operand) : opd s x = opd s' x := by
  cases x with
  | tmp t => simp only [opd, St.at, h.2.2.2 t]
  | _ => rfl
theorem argsV_eqo {s s' : St} (h : s.Eqo s') (ds : List D) : argsV s ds = argsV s' ds := by
  cases hx : argsV s ds with
  | some p => exact (argsW_loc (o' := s'.obs) hx fun i _ => h.2.1 i).symm
  | none =>
    cases hy : argsV s' ds with
    | none => rfl
    | some p => rw [show argsV s ds = some p from argsW_loc (o' := s.obs) hy fun i _ => (h.2.1 i).symm] at hx; cases hx
theorem rdIds_eqo {s s' : St} (h : s.Eqo s') (op : Op) : rdIds s op = rdIds s' op := by
  unfold rdIds
  have e : (opd s) = opd s' := funext fun x => opd_eqo h x
  split
  · unfold lentIds
    simp only [e, argsV_eqo h]
  · rw [show (fun x => (opd s x).ids) = fun x => (opd s' x).ids from funext fun x => by rw [opd_eqo h]]
theorem St.Eqo.symm {s s' : St} (h : s.Eqo s') : s'.Eqo s := ⟨h.1.symm, fun x => (h.2.1 x).symm, h.2.2.1.symm, fun x => (h.2.2.2 x).symm⟩
theorem valD_eqo {P} {s s' : St} (h : s.Eqo s') (op : Op) (r : D → Prop) : valD P s op r = valD P s' op r :=
  propext ⟨valD_loc (fun _ _ => h.2.1 _) fun x _ => opd_eqo h x, valD_loc (fun _ _ => h.symm.2.1 _) fun x _ => opd_eqo h.symm x⟩
theorem effD_eqo {P} {s s' : St} (h : s.Eqo s') (op : Op) (r : ERes → Prop) : effD P s op r = effD P s' op r :=
  propext ⟨effD_loc (fun _ _ => h.2.1 _) fun x _ => opd_eqo h x, effD_loc (fun _ _ => h.symm.2.1 _) fun x _ => opd_eqo h.symm x⟩

theorem HD2_nil {P s fp C k} (hC : C fp) (h : k s) : HD2 P [] s fp C k := fun s0 e => ⟨hC, s, e, h⟩
theorem HD2_cons {P s dst op rest fp C k} (h : valD P s op fun d => putOK dst s ∧ HD2 P rest (s.put dst d) (fp ++ [(rdIds s op, [])]) C k) : HD2 P (⟨dst, op, none⟩ :: rest) s fp C k := fun s0 e => by
  obtain ⟨d, hv, hp, hr⟩ := Lin.valD.2 _ h
  refine ⟨(d, [], none, rdIds s op), by cases dst <;> simp_all [putOK, e.1], .inl ⟨?_, rfl, rfl, (rdIds_eqo e op).symm⟩, fun x hx => (by cases hx), ?_⟩
  · rw [valD_eqo e]; exact hv
  · exact hr _ (e.put dst d)
theorem HD2_eff {P s dst op rest fp C k} (h : effD P s op fun e => putOK dst s ∧ (e.nw = none → dst = none) ∧
    HD2 P rest (s.effS e dst) (fp ++ [(rdIds s op, match e.nw with | none => e.U.map (·.1) | some _ => s.next :: e.U.map (·.1))]) C k) : HD2 P (⟨dst, op, none⟩ :: rest) s fp C k := fun s0 e0 => by
  obtain ⟨e, hv, hp, hd, hr⟩ := Lin.effD.2 _ h
  have hp0 : putOK dst s0 := by cases dst <;> simp_all [putOK, e0.1]
  have hv0 : effD P s0 op (· = e) := by rw [effD_eqo e0]; exact hv
  cases hn : e.nw with
  | none =>
    obtain rfl := hd hn
    refine ⟨(.any, e.U, none, rdIds s op), hp0, .inr ⟨e, hv0, (rdIds_eqo e0 op).symm, by rw [hn]; exact ⟨rfl, rfl, rfl⟩⟩, fun x hx => (by cases hx), ?_⟩
    rw [hn] at hr
    refine hr _ ?_
    simp only [St.app, St.effS, hn, St.put]
    exact ⟨e0.1, fun x => by simp only [getK_applyW, e0.2.1 x], e0.2.2.1, e0.2.2.2⟩
  | some ob =>
    refine ⟨(mkD e.how s0.next, (s0.next, some ob) :: e.U, some s0.next, rdIds s op), hp0, .inr ⟨e, hv0, (rdIds_eqo e0 op).symm, by rw [hn]; exact ⟨s0.next, rfl, rfl, rfl⟩⟩, fun x hx => (by cases hx; rfl), ?_⟩
    rw [hn] at hr
    have h1 := hr (s0.app dst (mkD e.how s0.next, (s0.next, some ob) :: e.U, some s0.next, rdIds s op)) (by
      simp only [St.app, St.effS, hn, e0.2.2.1]
      apply St.Eqo.put
      refine ⟨e0.1, fun x => ?_, by simp, e0.2.2.2⟩
      simp only [applyW, getK_setOb, getK_cons, getK_applyW, e0.2.1 x])
    simp only [keys, List.map_cons]
    rw [e0.2.2.1] at h1 ⊢
    exact h1
theorem HD2_guard {P s dst op rest fp C k t want b} (hb : getK s.env t = some (.u (.bool b))) (hp : putOK dst s)
    (hy : b = want → HD2 P (⟨dst, op, none⟩ :: rest) (s.put (some t) (.u (.bool want))) fp C k)
    (hn : b = !want → HD2 P rest ((s.put (some t) (.u (.bool (!want)))).put dst .un) (fp ++ [([], [])]) C k) : HD2 P (⟨dst, op, some (t, want)⟩ :: rest) s fp C k := fun s0 e => by
  have lit : ∀ b', b = b' → s.Eqo (s.put (some t) (.u (.bool b'))) := fun b' e' => ⟨rfl, fun _ => rfl, rfl, fun x => by
    subst e'
    simp only [St.put, getK_cons]
    split
    · rename_i hx; rw [hx, hb]
    · rfl⟩
  have hp0 : putOK dst s0 := by cases dst <;> simp_all [putOK, e.1]
  by_cases hw : b = want
  · have e1 := e.trans (lit want hw)
    obtain ⟨en, h1, h2, h3, h4⟩ := hy hw s0 e1
    exact ⟨en, h1, .inl ⟨b, by rw [e.2.2.2 t]; exact hb, by rw [if_pos hw]; exact h2⟩, h3, h4⟩
  · have hw' : b = !want := by cases b <;> cases want <;> simp_all
    have e1 := e.trans (lit _ hw')
    exact ⟨(.un, [], none, []), hp0, .inl ⟨b, by rw [e.2.2.2 t]; exact hb, by rw [if_neg hw]; exact ⟨rfl, rfl, rfl⟩⟩, fun x hx => (by cases hx), hn hw' _ (e1.put dst .un)⟩
theorem HD2_guardU {P s dst op rest fp C k t want} (hb : getK s.env t = some .un) (hp : putOK dst s) (hn : HD2 P rest (s.put dst .un) (fp ++ [([], [])]) C k) :
    HD2 P (⟨dst, op, some (t, want)⟩ :: rest) s fp C k := fun s0 e =>
  ⟨(.un, [], none, []), by cases dst <;> simp_all [putOK, e.1], .inr ⟨by rw [e.2.2.2 t]; exact hb, rfl, rfl, rfl⟩, fun x hx => (by cases hx), hn _ (e.put dst .un)⟩

-- the table of one evaluation
def stE (ops : List Oper) (s0 : St) (E : Nat → Ent) (i : Nat) : St :=
  { n := s0.n, env := envF (tT E) (fun j => decide (j < i)) ops 0 s0.env, obs := applyW (wlog (tW E) (fun _ => true) i) s0.obs, next := s0.next + cnt E i }
theorem envF_congrT (T T' : Nat → D) (S : Nat → Bool) (h : ∀ j, S j = true → T j = T' j) : ∀ (l : List Oper) (i : Nat) (e : List (Nat × D)), envF T S l i e = envF T' S l i e
  | [], _, _ => rfl
  | o :: l, i, e => by
    simp only [envF]
    cases hS : S i with
    | true => rw [h i hS]; exact envF_congrT T T' S h l (i + 1) _
    | false => exact envF_congrT T T' S h l (i + 1) _
theorem wlog_congrW (W W' : Nat → Wr) (S : Nat → Bool) : ∀ m, (∀ j, j < m → W j = W' j) → wlog W S m = wlog W' S m
  | 0, _ => rfl
  | m + 1, h => by simp only [wlog, h m (by omega), wlog_congrW W W' S m fun j hj => h j (by omega)]
theorem cnt_congr (E E' : Nat → Ent) : ∀ i, (∀ j, j < i → E j = E' j) → cnt E i = cnt E' i
  | 0, _ => rfl
  | i + 1, h => by
    simp only [cnt, tC, h i (by omega), cnt_congr E E' i fun j hj => h j (by omega)]
    rfl
theorem stE_congr {ops s0} {E E' : Nat → Ent} {i : Nat} (h : ∀ j, j < i → E j = E' j) : stE ops s0 E i = stE ops s0 E' i := by
  simp only [stE]
  rw [envF_congrT (tT E) (tT E') _ (fun j hj => by simp at hj; simp only [tT, h j hj]), wlog_congrW (tW E) (tW E') _ i (fun j hj => by simp only [tW, h j hj]), cnt_congr E E' i h]
theorem tF_congr {E E' : Nat → Ent} {i : Nat} (h : ∀ j, j < i → E j = E' j) : tF E i = tF E' i := by
  refine List.map_congr_left fun j hj => ?_
  simp only [tR, tW, h j (List.mem_range.1 hj)]
theorem applyW_append : ∀ (a b : Wr) (o : List (Nat × Ob)), applyW (a ++ b) o = applyW a (applyW b o)
  | [], _, _ => rfl
  | (i, some ob) :: a, b, o => by simp only [List.cons_append, applyW, applyW_append a b o]
  | (i, none) :: a, b, o => by simp only [List.cons_append, applyW, applyW_append a b o]
theorem wlog_take (W : Nat → Wr) (i : Nat) : ∀ m, i ≤ m → wlog W (fun j => decide (j < i)) m = wlog W (fun _ => true) i
  | 0, h => by obtain rfl : i = 0 := by omega
               rfl
  | m + 1, h => by
    by_cases he : i = m + 1
    · subst he
      have : ∀ q, q ≤ m + 1 → wlog W (fun j => decide (j < m + 1)) q = wlog W (fun _ => true) q := by
        intro q
        induction q with
        | zero => intro _; rfl
        | succ q ih =>
          intro hq
          simp only [wlog]
          rw [ih (by omega), if_pos (by simp; omega), if_pos trivial]
      exact this _ (Nat.le_refl _)
    · simp only [wlog]
      rw [if_neg (by simp; omega)]
      exact wlog_take W i m (by omega)

theorem chain2_T {P : Program} {all : Array Oper} {s0 : St} {ops : List Oper} {k : St → Fp → Prop} : ∀ (l : List O1) (tail : List Oper) (i : Nat) (E : Nat → Ent), stripL all tail = some l → (∀ j, tail[j]? = ops[i + j]?) →
    chain2 P l (stE ops s0 E i) (tF E i) k → ∃ E' : Nat → Ent, (∀ j, j < i → E' j = E j) ∧
      (∀ j o, i ≤ j → ops[j]? = some o → putOK o.dst s0 ∧ OpG P all (stE ops s0 E' j) o (tT E' j) (tW E' j) (tC E' j) (tR E' j) ∧ ∀ x, tC E' j = some x → x = s0.next + cnt E' j) ∧
      k (stE ops s0 E' (i + tail.length)) (tF E' (i + tail.length))
  | [], tail, i, E, hs, ht, h => by
    cases tail with
    | nil => exact ⟨E, fun _ _ => rfl, fun j o hj ho => by have := ht (j - i); rw [show i + (j - i) = j by omega, ho] at this; simp at this, by simpa [chain2] using h⟩
    | cons x l => simp only [stripL] at hs; split at hs <;> simp at hs
  | o1 :: l, tail, i, E, hs, ht, h => by
    obtain ⟨x, tl, rfl, hx, hr⟩ := stripL_cons hs
    obtain ⟨e, hp, hv, hnx, hc⟩ := h
    have hxi : ops[i]? = some x := by have := ht 0; simpa using this.symm
    have hdst : o1.dst = x.dst := by
      unfold strip at hx
      split at hx
      · simp at hx; subst hx; rfl
      · split at hx
        · simp at hx; subst hx; rfl
        · cases hx
    let E1 : Nat → Ent := fun j => if j = i then e else E j
    have h1 : ∀ j, j < i → E j = E1 j := fun j hj => by simp only [E1]; rw [if_neg (by omega)]
    have hi : E1 i = e := by simp [E1]
    have hstep : (stE ops s0 E i).app o1.dst e = stE ops s0 E1 (i + 1) := by
      rw [stE_congr h1, hdst]
      simp only [stE, St.app]
      rw [envF_step (tT E1) i ops 0 s0.env x (Nat.zero_le _) (by simpa using hxi)]
      have hw : wlog (tW E1) (fun _ => true) (i + 1) = e.2.1 ++ wlog (tW E1) (fun _ => true) i := by
        rw [wlog, if_pos rfl, show tW E1 i = e.2.1 by simp only [tW, hi]]
      have hcn : cnt E1 (i + 1) = cnt E1 i + if e.2.2.1.isSome then 1 else 0 := by
        rw [cnt, show tC E1 i = e.2.2.1 by simp only [tC, hi]]
      rw [hw, applyW_append, hcn]
      have hT : tT E1 i = e.1 := by simp only [tT, hi]
      cases x.dst with
      | none => simp only [St.put, Nat.add_assoc]
      | some y => simp only [St.put, hT, Nat.add_assoc]
    have hfp : tF E i ++ [(e.2.2.2, keys e.2.1)] = tF E1 (i + 1) := by
      rw [tF_congr h1]
      simp only [tF, List.range_succ, List.map_append, List.map_cons, List.map_nil]
      rw [show tR E1 i = e.2.2.2 by simp only [tR, hi], show tW E1 i = e.2.1 by simp only [tW, hi]]
    rw [hstep, hfp] at hc
    obtain ⟨E', g1, g2, g3⟩ := chain2_T l tl (i + 1) E1 hr (fun j => by have := ht (j + 1); rw [show i + 1 + j = i + (j + 1) by omega, ← this]; simp) hc
    refine ⟨E', fun j hj => by rw [g1 j (by omega), h1 j hj], fun j o hj ho => ?_, ?_⟩
    · rcases Nat.lt_or_ge i j with h' | h'
      · exact g2 j o h' ho
      · obtain rfl : i = j := by omega
        rw [hxi] at ho
        cases ho
        have hEi : E' i = e := by rw [g1 i (by omega), hi]
        have hst : stE ops s0 E' i = stE ops s0 E i := stE_congr fun j hj => by rw [g1 j (by omega), ← h1 j hj]
        refine ⟨by rw [hdst] at hp; exact hp, ?_, fun y hy => ?_⟩
        · rw [hst]
          simp only [tT, tW, tC, tR, hEi]
          unfold strip at hx
          unfold OpG
          unfold Op2 at hv
          split at hx
          · rename_i hg
            simp at hx
            subst hx
            rw [hg]
            exact hv
          · rename_i q want hg
            split at hx
            · rename_i t ht'
              simp at hx
              subst hx
              rw [hg]
              exact ⟨t, ht', hv⟩
            · cases hx
        · have : tC E' i = e.2.2.1 := by simp only [tC, hEi]
          rw [this] at hy
          have := hnx y hy
          rw [this, cnt_congr E' E i fun j hj => by rw [g1 j (by omega), ← h1 j hj]]
          rfl
    · rw [show i + (x :: tl).length = i + 1 + tl.length by simp; omega]
      exact g3

def disjB (a b : List Nat) : Bool := a.all fun y => !b.contains y
/-- Operations without an order between them do not touch what the other one changes. -/
def okP (ops : List Oper) (fp : Fp) : Bool :=
  (List.range ops.length).all fun j => (List.range j).all fun i => befB ops ops.length i j ||
    (disjB (fp.getD i ([], [])).2 ((fp.getD j ([], [])).1 ++ (fp.getD j ([], [])).2) && disjB (fp.getD j ([], [])).2 (fp.getD i ([], [])).1)
theorem disjB_out {a b : List Nat} (h : disjB a b = true) : ∀ y ∈ a, y ∉ b := fun y hy => by
  have := (List.all_eq_true.1 h) y hy
  simpa using this

theorem V_draw3 {P Γ s} {Q : Exit → St → Prop} {kt : Kt} {id : Nat} {l : List Oper} (hm : P.follows .mixedOrders = true) (hord : ordOK l = true) (hn0 : Γ.n0 ≤ s.next)
    (h : ∀ (C : Fp → Prop) (k : St → Prop), (∀ fp, okP l fp = true → C fp) → (∀ s', RunK P Γ Q kt .normal s' → k s') → match stripL l.toArray l with | some l' => HD2 P l' s [] C k | none => False) :
    V P Γ (.region id l.toArray true) s (RunK P Γ Q kt) := by
  have := h (fun fp => okP l fp = true) _ (fun _ h => h) fun _ h => h
  split at this
  · rename_i l' hl
    have h0 : stE l s (fun _ => default) 0 = s := by
      have hnone : ∀ (l : List Oper) (i : Nat) (e : List (Nat × D)), envF (tT fun _ => default) (fun j => decide (j < 0)) l i e = e := by
        intro l
        induction l with
        | nil => intro i e; rfl
        | cons o l ih => intro i e; exact ih (i + 1) e
      simp only [stE, hnone]
      rfl
    have hc := this s (.refl s)
    rw [← h0] at hc
    obtain ⟨E, _, h2, hok, s', h3, h4⟩ := chain2_T l' l 0 (fun _ => default) hl (fun j => by rw [Nat.zero_add]) hc
    rw [Nat.zero_add] at hok h3
    have hlen : ∀ i, i < l.length → (tF E l.length).getD i ([], []) = (tR E i, keys (tW E i)) := fun i hi => by
      simp [tF, hi]
    have mono : ∀ i j, i ≤ j → cnt E i ≤ cnt E j := fun i j hij => by
      induction hij with
      | refl => exact Nat.le_refl _
      | step _ ih => simp only [cnt]; omega
    have hcr : ∀ i x, i < l.length → tC E i = some x → x = s.next + cnt E i ∧ cnt E (i + 1) = cnt E i + 1 := fun i x hi hx => by
      have := (h2 i _ (Nat.zero_le _) (List.getElem?_eq_getElem hi)).2.2 x hx
      exact ⟨this, by simp only [cnt, hx]; rfl⟩
    -- behind the operations nothing is made
    let cr : Nat → Option Nat := fun i => if i < l.length then tC E i else none
    refine V_draw2 (T := tT E) (W := tW E) (cr := cr) (R := tR E) (M := s.next + cnt E l.length) hm hord hn0 (by omega) (fun i x hx => ?_) (fun i j x hi hj => ?_) (fun i j hij hj hb => ?_) (fun i o ho => ?_) ⟨s', ?_, h4⟩
    · simp only [cr] at hx
      split at hx
      · rename_i hi
        obtain ⟨e1, e2⟩ := hcr i x hi hx
        have := mono (i + 1) l.length hi
        omega
      · cases hx
    · simp only [cr] at hi hj
      split at hi
      · rename_i hil
        split at hj
        · rename_i hjl
          obtain ⟨e1, e2⟩ := hcr i x hil hi
          obtain ⟨e3, e4⟩ := hcr j x hjl hj
          rcases Nat.lt_trichotomy i j with hlt | hlt | hlt
          · have := mono (i + 1) j hlt
            omega
          · exact hlt
          · have := mono (j + 1) i hlt
            omega
        · cases hj
      · cases hi
    · have := (List.all_eq_true.1 ((List.all_eq_true.1 hok) j (List.mem_range.2 hj))) i (List.mem_range.2 hij)
      rw [hb, hlen i (by omega), hlen j hj] at this
      simp only [Bool.false_or, Bool.and_eq_true] at this
      refine ⟨fun y hy => ?_, fun y hy => disjB_out this.2 y hy⟩
      have := disjB_out this.1 y hy
      rw [List.mem_append, not_or] at this
      exact this
    · have hi := (List.getElem?_eq_some_iff.1 ho).1
      obtain ⟨g1, g2, g3⟩ := h2 i o (Nat.zero_le _) ho
      refine ⟨g1, ?_⟩
      have hst : stW l (tT E) (tW E) s (s.next + cnt E l.length) (fun j => decide (j < i)) = { stE l s E i with next := s.next + cnt E l.length } := by
        simp only [stW, stE]
        rw [wlog_take (tW E) i l.length (by omega)]
      have hcri : cr i = tC E i := by simp only [cr]; rw [if_pos hi]
      rw [hst, hcri]
      have eqo : ∀ (op : Op) (r : D → Prop), valD P { stE l s E i with next := s.next + cnt E l.length } op r = valD P (stE l s E i) op r := fun op r => valD_congr rfl fun x _ => by cases x <;> rfl
      have ero : ∀ (op : Op), rdIds { stE l s E i with next := s.next + cnt E l.length } op = rdIds (stE l s E i) op := fun op => by
        have e : opd { stE l s E i with next := s.next + cnt E l.length } = opd (stE l s E i) := funext fun x => by cases x <;> rfl
        unfold rdIds lentIds argsV
        rw [e]
      have efo : ∀ (op : Op) (r : ERes → Prop), effD P { stE l s E i with next := s.next + cnt E l.length } op r = effD P (stE l s E i) op r := fun op r =>
        propext ⟨effD_loc (fun _ _ => rfl) fun x _ => by cases x <;> rfl, effD_loc (fun _ _ => rfl) fun x _ => by cases x <;> rfl⟩
      unfold OpG at g2 ⊢
      unfold Op1 at g2 ⊢
      simp only [eqo, ero, efo]
      exact g2
    · refine St.Eqo.trans (b := stE l s E l.length) ⟨rfl, fun x => ?_, rfl, fun x => ?_⟩ h3
      · simp only [stW, stE]
      · simp only [stW, stE]
        exact envF_congr (tT E) _ _ x l 0 s.env s.env rfl fun j o hj _ => by
          have := (List.getElem?_eq_some_iff.1 hj).1
          simp [this]
  · exact this.elim
end Go.VL

/- The calculus of values: which words serve which statement. -/
namespace Go.VL
open Go
def isEffOp : Op → Bool
  | .alloc _ | .box .. | .store .. | .buildSlice .. | .makeSlice .. | .makeMap _ none | .mapUpdate .. | .insert .. => true
  | .call c => match c.callee with | .builtin .append => true | _ => false
  | _ => false
theorem HD2_val {P s dst op rest fp C k} (_ : isEffOp op = false) (h : valD P s op fun d => putOK dst s ∧ HD2 P rest (s.put dst d) (fp ++ [(rdIds s op, [])]) C k) : HD2 P (⟨dst, op, none⟩ :: rest) s fp C k := HD2_cons h
theorem HD2_chg {P s dst op rest fp C k} (_ : isEffOp op = true) (h : effD P s op fun e => putOK dst s ∧ (e.nw = none → dst = none) ∧
    HD2 P rest (s.effS e dst) (fp ++ [(rdIds s op, match e.nw with | none => e.U.map (·.1) | some _ => s.next :: e.U.map (·.1))]) C k) : HD2 P (⟨dst, op, none⟩ :: rest) s fp C k := HD2_eff h
theorem V_drawV {P Γ s} {Q : Exit → St → Prop} {kt : Kt} {id : Nat} {l : List Oper} (_ : (l.all fun o => !isEffOp o.op) = true) (hm : P.follows .mixedOrders = true) (hord : ordOK l = true)
    (h : ∀ k : St → Prop, (∀ s', RunK P Γ Q kt .normal s' → k s') → match stripL l.toArray l with | some l' => HD P l' s k | none => False) : V P Γ (.region id l.toArray true) s (RunK P Γ Q kt) := V_draw1 hm hord h
theorem V_drawE {P Γ s} {Q : Exit → St → Prop} {kt : Kt} {id : Nat} {l : List Oper} (_ : (l.all fun o => !isEffOp o.op) = false) (hm : P.follows .mixedOrders = true) (hord : ordOK l = true) (hn0 : Γ.n0 ≤ s.next)
    (h : ∀ (C : Fp → Prop) (k : St → Prop), (∀ fp, okP l fp = true → C fp) → (∀ s', RunK P Γ Q kt .normal s' → k s') → match stripL l.toArray l with | some l' => HD2 P l' s [] C k | none => False) :
    V P Γ (.region id l.toArray true) s (RunK P Γ Q kt) := V_draw3 hm hord hn0 h
end Go.VL

/- The calculus of values: that a state tells no more than another one, by a look at its slots and objects. -/
namespace Go.VL
open Go
def leEnv (ρ : Nat → Nat) (s : St) (nx : Nat) : List (Nat × D) → Prop
  | [] => True
  | p :: l => (D.le ρ (s.at p.1) p.2 ∧ p.2.under nx = true ∧ p.1 < s.n) ∧ leEnv ρ s nx l
def leObs (ρ : Nat → Nat) (s : St) (nx : Nat) : List (Nat × Ob) → Prop
  | [] => True
  | p :: l => (p.1 < nx ∧ ∃ ob, getK s.obs (ρ p.1) = some ob ∧ Ob.le ρ ob p.2 ∧ p.2.under nx = true) ∧ leObs ρ s nx l
def leL (ρ : Nat → Nat) : List D → List D → Prop
  | [], [] => True
  | a :: as, b :: bs => D.le ρ a b ∧ leL ρ as bs
  | _, _ => False
theorem leL_out {ρ} : ∀ {a b : List D}, leL ρ a b → a.length = b.length ∧ ∀ (j : Nat) (c c' : D), a[j]? = some c → b[j]? = some c' → D.le ρ c c'
  | [], [], _ => ⟨rfl, by simp⟩
  | a :: as, b :: bs, h => by
    obtain ⟨h1, h2⟩ := leL_out h.2
    refine ⟨by simp [h1], fun j c c' hj hj' => ?_⟩
    cases j with
    | zero => simp at hj hj'; subst hj; subst hj'; exact h.1
    | succ j => exact h2 j c c' (by simpa using hj) (by simpa using hj')
  | [], b :: bs, h => h.elim
  | a :: as, [], h => h.elim
theorem leEnv_out {ρ s nx} : ∀ {l : List (Nat × D)}, leEnv ρ s nx l → ∀ x d', getK l x = some d' → D.le ρ (s.at x) d' ∧ d'.under nx = true ∧ x < s.n
  | [], _, x, d', h => by simp [getK] at h
  | (y, d) :: l, h, x, d', hx => by
    rw [getK_cons] at hx
    by_cases e : x = y
    · rw [if_pos e] at hx; cases hx; subst e; exact h.1
    · rw [if_neg e] at hx; exact leEnv_out h.2 x d' hx
theorem leObs_out {ρ s nx} : ∀ {l : List (Nat × Ob)}, leObs ρ s nx l → ∀ x d', getK l x = some d' → x < nx ∧ ∃ ob, getK s.obs (ρ x) = some ob ∧ Ob.le ρ ob d' ∧ d'.under nx = true
  | [], _, x, d', h => by simp [getK] at h
  | (y, d) :: l, h, x, d', hx => by
    rw [getK_cons] at hx
    by_cases e : x = y
    · rw [if_pos e] at hx; cases hx; subst e; exact h.1
    · rw [if_neg e] at hx; exact leObs_out h.2 x d' hx
theorem getK_mem {α : Type} : ∀ {l : List (Nat × α)} {x : Nat} {d : α}, getK l x = some d → x ∈ l.map (·.1)
  | [], x, d, h => by simp [getK] at h
  | (y, e) :: l, x, d, h => by
    rw [getK_cons] at h
    by_cases hx : x = y
    · subst hx; simp
    · rw [if_neg hx] at h; exact List.mem_cons_of_mem _ (getK_mem h)
theorem St.le_of {n0 : Nat} {ρ : Nat → Nat} {s s' : St} (hn : s'.n = s.n) (he : leEnv ρ s s'.next s'.env) (ho : leObs ρ s s'.next s'.obs)
    (hi : ∀ i ∈ s'.obs.map (·.1), ∀ j ∈ s'.obs.map (·.1), ρ i = ρ j → i = j) (hk : ∀ i, i < n0 → ρ i = i ∧ i < s'.next) : St.Le n0 ρ s s' :=
  ⟨hn, fun x d' hx => ⟨(leEnv_out he x d' hx).1, (leEnv_out he x d' hx).2.1⟩, fun x d' hx => (leEnv_out he x d' hx).2.2, fun i ob hob => leObs_out ho i ob hob,
    fun i j ob ob' hi' hj' e => hi i (getK_mem hi') j (getK_mem hj') e, hk⟩
theorem Ob.le_box {ρ cs cs'} (h : leL ρ cs cs') : Ob.le ρ (.box cs) (.box cs') := leL_out h
/-- Rows of plain values. -/
def uRows (rows : List (List D)) : Prop := ∀ r ∈ rows, ∀ c ∈ r, ∃ x, c = .u x
theorem uRows_map {α : Type} (l : List α) (f : α → List U) : uRows (l.map fun x => (f x).map .u) := by
  intro r hr c hc
  obtain ⟨x, _, rfl⟩ := List.mem_map.1 hr
  obtain ⟨u, _, rfl⟩ := List.mem_map.1 hc
  exact ⟨u, rfl⟩
theorem uRows_rowsD (l : List (List U)) : uRows (rowsD l) := uRows_map l fun r => r
theorem uRows_append {a b : List (List D)} (ha : uRows a) (hb : uRows b) : uRows (a ++ b) := fun r hr => (List.mem_append.1 hr).elim (ha r) (hb r)
theorem uRows_take {a : List (List D)} (n : Nat) (ha : uRows a) : uRows (a.take n) := fun r hr => ha r (List.mem_of_mem_take hr)
theorem uRows_nil : uRows [] := fun _ h => by cases h
theorem uRows_cons {r : List D} {a : List (List D)} (hr : ∀ c ∈ r, ∃ x, c = D.u x) (ha : uRows a) : uRows (r :: a) := fun q hq => by
  rcases List.mem_cons.1 hq with rfl | hq
  · exact hr
  · exact ha q hq
theorem uRows_set {a : List (List D)} {n : Nat} {r : List D} (hr : ∀ c ∈ r, ∃ x, c = D.u x) (ha : uRows a) : uRows (a.set n r) := fun q hq => by
  rcases List.mem_or_eq_of_mem_set hq with hq | rfl
  · exact ha q hq
  · exact hr
theorem Ob.le_vec {ρ e sz rows rows'} (hu : uRows rows) (hl : rows'.length ≤ rows.length) (hp : ∀ i, i < rows'.length → rows'[i]? = rows[i]?) : Ob.le ρ (.vec e sz rows) (.vec e sz rows') := by
  refine ⟨rfl, rfl, hl, fun i r r' hi hi' => ?_⟩
  have := hp i (List.getElem?_eq_some_iff.1 hi').1
  rw [hi, hi'] at this
  cases this
  refine ⟨rfl, fun j c c' hj hj' => ?_⟩
  rw [hj] at hj'
  cases hj'
  obtain ⟨x, rfl⟩ := hu _ (List.mem_of_getElem? hi) _ (List.mem_of_getElem? hj)
  exact .inr (.inl (by simp [D.ren]))
theorem Ob.le_vec_refl {ρ e sz rows} (hu : uRows rows) : Ob.le ρ (.vec e sz rows) (.vec e sz rows) := Ob.le_vec hu (Nat.le_refl _) fun _ _ => rfl
theorem Ob.under_vec {n e sz rows} (hu : uRows rows) : Ob.under n (.vec e sz rows) = true := by
  simp only [Ob.under, List.all_eq_true]
  intro r hr c hc
  obtain ⟨x, rfl⟩ := hu r hr c hc
  simp [D.under]
theorem LoopI.next {α : Type} {n0 : Nat} {S : α → St} {μ : α → Nat} {x : α} {s : St} (y : α) (ρ : Nat → Nat) (h1 : μ y < μ x) (h2 : St.Le n0 ρ s (S y)) : LoopI n0 S μ x s := ⟨y, ρ, h1, h2⟩
theorem EndOK.fin {P : Program} {fn : Func} {n0 : Nat} {e : Exit} {s : St} {post : D → List (Nat × Ob) → Nat → Prop} (he : e = .normal ∨ e = .ret)
    (h : resD P s fn.results.toList fun ds => FinOK n0 post s (oneOrTup ds)) : EndOK P fn n0 post e s := ⟨he, h⟩
theorem FinOK.intro {n0 : Nat} {post : D → List (Nat × Ob) → Nat → Prop} {s : St} {d : D} (s' : St) (ρ : Nat → Nat) (d' : D) (h1 : St.Le n0 ρ s s') (h2 : D.le ρ d d') (h3 : d'.under s'.next = true)
    (h4 : n0 ≤ s'.next) (h5 : post d' s'.obs s'.next) : FinOK n0 post s d := .inl ⟨s', ρ, d', h1, h2, h3, h4, h5⟩
theorem FinOK.here {n0 : Nat} {post : D → List (Nat × Ob) → Nat → Prop} {s : St} {d : D} (hn : n0 ≤ s.next) (h : post d s.obs s.next) : FinOK n0 post s d := .inr ⟨hn, h⟩
theorem V_vlen {P Γ c s Q} {i e sz : Nat} {rows : List (List D)} (hx : getK s.obs i = some (.vec e sz rows)) (h : rows.length ≤ 9223372036854775807 → V P Γ c s Q) : V P Γ c s Q :=
  V_know (fun K a w hs => by
    obtain ⟨g2, xs, hg2, hrow, hpos, hlen2, hcs, hno⟩ := (hs.sat.ob _ _ hx).vec
    rcases hrow.2 with ⟨hv, hn⟩ | ⟨b, cap, cur, hv, _, hheap, hncap, hcm, hcs', htake⟩
    · omega
    · exact Nat.le_trans hncap hcm) h
theorem map_fix {f : D → D} : ∀ {l : List D}, (∀ d ∈ l, f d = d) → l.map f = l
  | [], _ => rfl
  | d :: l, h => by rw [List.map_cons, h d (by simp), map_fix fun e he => h e (by simp [he])]
theorem D.ren_id : ∀ d : D, d.ren (fun i => i) = d
  | .u _ => by rw [D.ren]
  | .any => by rw [D.ren]
  | .ptr .. => by rw [D.ren]
  | .vec .. => by rw [D.ren]
  | .elt .. => by rw [D.ren]
  | .mp .. => by rw [D.ren]
  | .fnc f caps => by rw [D.ren, map_fix fun d hd => D.ren_id d]
  | .agg cs => by rw [D.ren, map_fix fun d hd => D.ren_id d]
  | .tup cs => by rw [D.ren, map_fix fun d hd => D.ren_id d]
termination_by d => SizeOf.sizeOf d
decreasing_by
  all_goals
    simp_wf
    have := List.sizeOf_lt_of_mem hd
    omega
theorem D.le_id (d : D) : D.le (fun i => i) d d := .inr (.inl (D.ren_id d).symm)
theorem Ob.le_id (ob : Ob) : Ob.le (fun i => i) ob ob := by
  cases ob with
  | it => exact ⟨rfl, rfl, rfl, rfl, rfl⟩
  | map kk ag es => exact ⟨rfl, rfl, rfl, fun i r r' h h' => by
      rw [h] at h'
      cases h'
      exact ⟨rfl, fun j c c' h h' => by rw [h] at h'; cases h'; exact D.le_id _⟩⟩
  | box cs => exact ⟨rfl, fun j c c' h h' => by rw [h] at h'; cases h'; exact D.le_id _⟩
  | vec e sz rows => exact ⟨rfl, rfl, Nat.le_refl _, fun i r r' h h' => by
      rw [h] at h'
      cases h'
      exact ⟨rfl, fun j c c' h h' => by rw [h] at h'; cases h'; exact D.le_id _⟩⟩
/-- The state without its slots. -/
theorem FinOK.same {n0 : Nat} {post : D → List (Nat × Ob) → Nat → Prop} {s : St} {d : D} (ho : ∀ p ∈ s.obs, p.1 < s.next ∧ p.2.under s.next = true) (hd : d.under s.next = true) (hn : n0 ≤ s.next)
    (h : post d s.obs s.next) : FinOK n0 post s d := by
  have hg : ∀ i ob, getK s.obs i = some ob → (i, ob) ∈ s.obs := by
    have : ∀ (l : List (Nat × Ob)) i ob, getK l i = some ob → (i, ob) ∈ l := by
      intro l
      induction l with
      | nil => intro i ob h; simp [getK] at h
      | cons p l ih =>
        obtain ⟨k, o⟩ := p
        intro i ob h
        rw [getK_cons] at h
        by_cases hk : i = k
        · rw [if_pos hk] at h; cases h; subst hk; simp
        · rw [if_neg hk] at h; exact List.mem_cons_of_mem _ (ih i ob h)
    exact this s.obs
  exact .inl ⟨{ s with env := [] }, fun i => i, d, ⟨rfl, fun x d' hx => by simp [getK] at hx, fun x d' hx => by simp [getK] at hx,
    fun i ob hi => ⟨(ho _ (hg i ob hi)).1, ob, hi, Ob.le_id ob, (ho _ (hg i ob hi)).2⟩, fun _ _ _ _ _ _ h => h, fun i hi => ⟨rfl, Nat.lt_of_lt_of_le hi hn⟩⟩, D.le_id d, hd, hn, h⟩
theorem getK_in {α : Type} : ∀ {l : List (Nat × α)} {i : Nat} {ob : α}, getK l i = some ob → (i, ob) ∈ l
  | [], i, ob, h => by simp [getK] at h
  | (k, o) :: l, i, ob, h => by
    rw [getK_cons] at h
    by_cases hk : i = k
    · rw [if_pos hk] at h; cases h; subst hk; simp
    · rw [if_neg hk] at h; exact List.mem_cons_of_mem _ (getK_in h)
/-- The state without its slots, and without some objects. -/
theorem FinOK.sub {n0 : Nat} {post : D → List (Nat × Ob) → Nat → Prop} {s : St} {d : D} (obs : List (Nat × Ob)) (ho : ∀ p ∈ obs, getK s.obs p.1 = some p.2 ∧ p.1 < s.next ∧ p.2.under s.next = true) (hd : d.under s.next = true) (hn : n0 ≤ s.next)
    (h : post d obs s.next) : FinOK n0 post s d :=
  .inl ⟨{ s with env := [], obs := obs }, fun i => i, d, ⟨rfl, fun x d' hx => by simp [getK] at hx, fun x d' hx => by simp [getK] at hx,
    fun i ob hi => ⟨(ho _ (getK_in hi)).2.1, ob, (ho _ (getK_in hi)).1, Ob.le_id ob, (ho _ (getK_in hi)).2.2⟩, fun _ _ _ _ _ _ h => h, fun i hi => ⟨rfl, Nat.lt_of_lt_of_le hi hn⟩⟩, D.le_id d, hd, hn, h⟩
theorem Ob.under_box {n : Nat} {cs : List D} : Ob.under n (.box cs) = cs.all (·.under n) := rfl
theorem Ret.mono {P f ds obs nx} {p q : D → List (Nat × Ob) → Nat → Prop} (h : Ret P f ds obs nx p) (hq : ∀ d o n, p d o n → q d o n) : Ret P f ds obs nx q := fun k own w vs h1 h2 h3 h4 =>
  Calls.mono (h k own w vs h1 h2 h3 h4) fun _ _ ⟨v, d, o, n, k', e, a, b, c, g, r, hpost⟩ => ⟨v, d, o, n, k', e, a, b, c, g, r, hq d o n hpost⟩
theorem D.le_refl_u {ρ x} : D.le ρ (.u x) (.u x) := .inr (.inl (by simp [D.ren]))
end Go.VL

/- The calculus of values: what a state may be told as instead: an empty slice as rows of the call's own, rows that no one will write any more as a value; loops and ends of functions up to that. -/
namespace Go.VL
open Go

/-- The state can be told as s' as well. -/
def Wk (Γ : Ctx) (s s' : St) : Prop := ∀ K a w, In Γ K w → Sim K Γ.own s a w → ∃ K', In Γ K' w ∧ Sim K' Γ.own s' a w
theorem Wk.refl {Γ : Ctx} (s : St) : Wk Γ s s := fun K _ _ h g => ⟨K, h, g⟩
theorem Wk.trans {Γ : Ctx} {a b c : St} (h : Wk Γ a b) (g : Wk Γ b c) : Wk Γ a c := fun K x w h1 h2 =>
  let ⟨K1, h3, h4⟩ := h K x w h1 h2
  g K1 x w h3 h4
theorem Wk.le {Γ : Ctx} {s s' : St} (ρ : Nat → Nat) (h : St.Le Γ.n0 ρ s s') : Wk Γ s s' := fun _ _ _ h1 h2 => ⟨_, Sim.weak h1 h2 h⟩
theorem V_wk {P Γ c s Q} (s' : St) (hw : Wk Γ s s') (h : V P Γ c s' Q) : V P Γ c s Q := fun K a w hin hs =>
  let ⟨K', h1, h2⟩ := hw K a w hin hs
  h K' a w h1 h2

/-- The next round's state can be told as one of the family, closer to the end. -/
def LoopW {α : Type} (Γ : Ctx) (S : α → St) (μ : α → Nat) (x : α) (s : St) : Prop := ∃ y, μ y < μ x ∧ Wk Γ s (S y)
theorem LoopW.next {α : Type} {Γ : Ctx} {S : α → St} {μ : α → Nat} {x : α} {s : St} (y : α) (h1 : μ y < μ x) (h2 : Wk Γ s (S y)) : LoopW Γ S μ x s := ⟨y, h1, h2⟩
theorem V_loopW {P Γ Q k s} {c : Code} {α : Type} (S : α → St) (μ : α → Nat) (x0 : α) (h0 : Wk Γ s (S x0))
    (h : ∀ x, V P Γ c (S x) (RunK P Γ Q (.loop (LoopW Γ S μ x) k))) : V P Γ (.loop c) s (RunK P Γ Q k) := by
  intro K a w hin hs
  obtain ⟨K0, hin0, hs0⟩ := h0 K a w hin hs
  have key : ∀ (m : Nat) (x : α) (K : Kr) (a : Act) (w : World), μ x = m → In Γ K w → Sim K Γ.own (S x) a w →
      ∀ (b : Frame) (kk : List Item) (cs : List Frame), ∃ e a' w', VPost Γ (RunK P Γ Q k) e a' w' ∧
        Arrives P (lone (b.at a (.code c :: .inLoop c :: kk)) cs w) b kk cs e a' w' := by
    intro m
    induction m using Nat.strongRecOn with
    | _ m ih =>
      intro x K a w hm hin hs b kk cs
      obtain ⟨e, a1, w1, hv1, harr⟩ := h x K a w hin hs b (.inLoop c :: kk) cs
      rcases hv1 with ⟨K1, s1, h1, h2, h3⟩ | hv1
      · cases e with
        | normal =>
          obtain ⟨y, hlt, hle⟩ := h3
          obtain ⟨K2, h4, h5⟩ := hle K1 a1 w1 h1 h2
          obtain ⟨e2, a2, w2, hq, harr2⟩ := ih (μ y) (hm ▸ hlt) y _ a1 w1 rfl h4 h5 b kk cs
          exact ⟨e2, a2, w2, hq, .of_steps (Steps.trans harr (.one step_inLoop)) harr2⟩
        | exit id => exact ⟨.exit id, a1, w1, .inl ⟨K1, s1, h1, h2, h3⟩, .pass (x := .inLoop c) rfl (fun _ _ => .inl (by simp)) harr⟩
        | goto l => exact ⟨.goto l, a1, w1, .inl ⟨K1, s1, h1, h2, h3⟩, .pass (x := .inLoop c) rfl (fun _ _ => .inl (by simp)) harr⟩
        | ret => exact ⟨.ret, a1, w1, .inl ⟨K1, s1, h1, h2, h3⟩, .pass (x := .inLoop c) rfl (fun _ _ => .inl (by simp)) harr⟩
        | panic ch => exact ⟨.panic ch, a1, w1, .inl ⟨K1, s1, h1, h2, h3⟩, .pass (x := .inLoop c) rfl (fun _ _ => .inl (by simp)) harr⟩
        | outgrown => exact ⟨.outgrown, a1, w1, .inl ⟨K1, s1, h1, h2, h3⟩, .pass (x := .inLoop c) rfl (fun _ _ => .inl (by simp)) harr⟩
      · cases e with
        | normal => exact hv1.1.elim
        | _ => exact ⟨_, a1, w1, .inr hv1, .pass (x := .inLoop c) rfl (fun _ _ => .inl (by simp)) harr⟩
  intro b kk cs
  obtain ⟨e, a', w', hq, harr⟩ := key _ x0 K0 a w rfl hin0 hs0 b kk cs
  exact ⟨e, a', w', hq, .of_steps (.one step_loop) harr⟩

/-- At a function's end, up to what the state may be told as. -/
def EndW (P : Program) (Γ : Ctx) (fn : Func) (n0 : Nat) (post : D → List (Nat × Ob) → Nat → Prop) (e : Exit) (s : St) : Prop := ∃ s', Wk Γ s s' ∧ EndOK P fn n0 post e s'
theorem EndW.here {P Γ fn n0 post e s} (h : EndOK P fn n0 post e s) : EndW P Γ fn n0 post e s := ⟨s, .refl s, h⟩
theorem EndW.wk {P Γ fn n0 post e s} (s' : St) (hw : Wk Γ s s') (h : EndW P Γ fn n0 post e s') : EndW P Γ fn n0 post e s :=
  let ⟨s2, h1, h2⟩ := h
  ⟨s2, hw.trans h1, h2⟩
theorem V_doneW {P Γ c s fn n0 post} (h : V P Γ c s (RunK P Γ (EndW P Γ fn n0 post) .done)) : V P Γ c s (RunK P Γ (EndOK P fn n0 post) .done) := by
  intro K a w hin hs
  have h1 := h K a w hin hs
  refine Code.wp_mono ?_ h1
  rintro e a' w' (⟨K', s', h2, h3, hq⟩ | h2)
  · cases e with
    | panic ch => exact .inl ⟨K', s', h2, h3, hq⟩
    | _ =>
      obtain ⟨s2, hw, he⟩ := hq
      obtain ⟨K2, h4, h5⟩ := hw K' a' w' h2 h3
      exact .inl ⟨K2, s2, h4, h5, he⟩
  · exact .inr h2
theorem Fun.of_bodyW {P f fn c ds post} (hf : P.funcs[f]? = some fn) (hb : fn.body = some c) (hn : ds.length ≤ fn.ntmps)
    (h : ∀ Γ : Ctx, Γ.n0 = 0 → V P Γ c (entry ds fn.ntmps [] 0) (RunK P Γ (EndW P Γ fn 0 fun d _ _ => pureD d = true ∧ post d) .done)) : Fun P f ds post :=
  Fun.of_body hf hb hn fun Γ hn => V_doneW (h Γ hn)
theorem Ret.of_bodyW {P f fn c ds obs nx post} (hf : P.funcs[f]? = some fn) (hb : fn.body = some c) (hn : ds.length ≤ fn.ntmps)
    (h : ∀ Γ : Ctx, Γ.n0 = nx → V P Γ c (entry ds fn.ntmps obs nx) (RunK P Γ (EndW P Γ fn nx post) .done)) : Ret P f ds obs nx post :=
  Ret.of_body hf hb hn fun Γ hn => V_doneW (h Γ hn)

/-- The nil slice in a slot, told as no rows of the call's own. -/
def St.own (s : St) (x e sz : Nat) : St := { s with env := (x, .vec s.next 0) :: s.env, obs := (s.next, .vec e sz []) :: s.obs, next := s.next + 1 }
theorem addNil {Γ : Ctx} {k s a w} (e sz : Nat) (hsz : 0 < sz) (hin : In Γ k w) (hs : Sim k Γ.own s a w) :
    In Γ (k.add s.next (none, 0)) w ∧ Sim (k.add s.next (none, 0)) Γ.own { s with obs := (s.next, .vec e sz []) :: s.obs, next := s.next + 1 } a w := by
  have hi := hs.hdr s.next (Nat.le_refl _)
  have hle := Kr.le_add (h := (none, 0)) hi
  refine ⟨hin.step hle (fun b o v e => .inl e) rfl rfl rfl (Nat.le_refl _) fun _ _ => rfl, ⟨?_, hs.defers, hs.size, fun x d hx => ⟨(hs.env x d hx).1, (hs.env x d hx).2.mono hle⟩, fun i hi' => ?_⟩⟩
  · exact hs.sat.add hi (fun b hb => by cases hb) (fun _ _ => rfl) ⟨[], ⟨by simp, .inl ⟨rfl, rfl⟩⟩, hsz, by simp, by simp⟩
  · simp only [Kr.add]
    rw [if_neg (by simp only at hi'; omega)]
    exact hs.hdr i (by simp only at hi'; omega)
theorem Wk.own {Γ : Ctx} {s : St} (x e sz : Nat) (hsz : 0 < sz) (hx : getK s.env x = some (.u .nil)) : Wk Γ s (s.own x e sz) := by
  intro k a w hin hs
  obtain ⟨h1, h2⟩ := addNil e sz hsz hin hs
  refine ⟨_, h1, ⟨h2.sat, h2.defers, h2.size, fun y d hy => ?_, h2.hdr⟩⟩
  simp only [St.own, getK_cons] at hy
  by_cases hyx : y = x
  · subst hyx
    rw [if_pos rfl] at hy
    cases hy
    obtain ⟨h3, h4⟩ := hs.env y _ hx
    refine ⟨h3, ?_⟩
    rw [rep_nil h4]
    exact .vec s.next 0 (none, 0) (by simp [Kr.add])
  · rw [if_neg hyx] at hy
    exact h2.env y d hy
/-- The nil slice in a variable's cell, told as no rows of the call's own. -/
def St.ownC (s : St) (i : Nat) (cells : List D) (j e sz : Nat) : St := { s with obs := (s.next, .vec e sz []) :: setOb s.obs i (.box (cells.set j (.vec s.next 0))), next := s.next + 1 }
theorem Wk.ownC {Γ : Ctx} {s : St} (i : Nat) (cells : List D) (j e sz : Nat) (hsz : 0 < sz) (hi : getK s.obs i = some (.box cells)) (hj : cells[j]? = some (.u .nil)) : Wk Γ s (s.ownC i cells j e sz) := by
  intro k a w hin hs
  obtain ⟨h1, h2⟩ := addNil e sz hsz hin hs
  have hne : i ≠ s.next := fun h => by
    obtain ⟨g, h3, _⟩ := hs.sat.ob i _ hi
    rw [h, hs.hdr s.next (Nat.le_refl _)] at h3
    cases h3
  refine ⟨_, h1, ⟨?_, h2.defers, h2.size, h2.env, h2.hdr⟩⟩
  have hi' : getK ((s.next, Ob.vec e sz []) :: s.obs) i = some (.box cells) := by rw [getK_cons, if_neg hne]; exact hi
  obtain ⟨g, hg, hg1, b, vs, t, e1, h3, h4, h5⟩ := h2.sat.ob i _ hi'
  refine Sat.congr (Sat.set h2.sat hi' hg (fun _ _ => rfl) (ob' := .box (cells.set j (.vec s.next 0))) ⟨b, vs, t, e1, h3, by simpa using h4, fun y d hy => ?_⟩) fun y => ?_
  · rw [List.getElem?_set] at hy
    by_cases hyj : j = y
    · subst hyj
      rw [if_pos rfl] at hy
      have hlt := (List.getElem?_eq_some_iff.1 hj).1
      rw [if_pos hlt] at hy
      cases hy
      obtain ⟨h6, h7⟩ := h5 j _ hj
      refine ⟨h6, ?_⟩
      rw [rep_nil h7]
      exact .vec s.next 0 (none, 0) (by simp [Kr.add])
    · rw [if_neg hyj] at hy
      exact h5 y d hy
  · simp only [St.ownC, getK_cons, getK_setOb]
    by_cases hy : y = i
    · subst hy; simp [hne]
    · simp [hy]

-- objects that no one writes any more: values from now on
/-- What a frozen object is told as. -/
def fv (σ : D → Option U) (d : D) : D := match σ d with | some u => .u u | none => d
def frzS (σ : D → Option U) : D → D
  | .u x => .u x
  | .ptr j o => fv σ (.ptr j o)
  | .vec j len => fv σ (.vec j len)
  | .elt j a b c => .elt j a b c
  | .mp j => fv σ (.mp j)
  | .fnc f caps => .fnc f (caps.map fun d => frzS σ d)
  | .agg cs => mkAgg (cs.map fun d => frzS σ d)
  | .tup cs => .tup (cs.map fun d => frzS σ d)
  | .any => .any
theorem Rep.frz {k k' : Kr} {σ : D → Option U} (hle : k.le k') (hf : ∀ d u v, σ d = some u → Rep k d v → RepU k'.mem u v) :
    ∀ {d : D} {v : Value}, Rep k d v → Rep k' (frzS σ d) v := by
  intro d v h
  have leaf : ∀ d v, Rep k d v → Rep k' (fv σ d) v := fun d v h => by
    unfold fv
    split
    · rename_i u hu
      exact .u _ _ (hf d u v hu h)
    · exact h.mono hle
  induction h with
  | u x v h => rw [VL.frzS]; exact .u x v (h.mono hle.mem)
  | any v => rw [VL.frzS]; exact .any v
  | ptr j off b c h => rw [VL.frzS]; exact leaf _ _ (.ptr j off b c h)
  | vec j len h hh => rw [VL.frzS]; exact leaf _ _ (.vec j len h hh)
  | mp j b c h => rw [VL.frzS]; exact leaf _ _ (.mp j b c h)
  | elt j sz idx off b c h => rw [VL.frzS]; exact .elt j sz idx off b c (hle.hdr _ _ h)
  | fnc f caps vs hl hr ih =>
    rw [VL.frzS]
    refine .fnc f _ vs (by simpa using hl) fun j d hj => ?_
    rw [List.getElem?_map] at hj
    cases hc : caps[j]? with
    | none => rw [hc] at hj; cases hj
    | some e => rw [hc] at hj; cases hj; exact ih j e hc
  | agg cells vs hl hr ih =>
    rw [VL.frzS]
    refine mkAgg_rep (by simpa using hl) fun j d hj => ?_
    rw [List.getElem?_map] at hj
    cases hc : cells[j]? with
    | none => rw [hc] at hj; cases hj
    | some e => rw [hc] at hj; cases hj; exact ih j e hc
  | tup cells vs hl hr ih =>
    rw [VL.frzS]
    refine .tup _ vs (by simpa using hl) fun j d hj => ?_
    rw [List.getElem?_map] at hj
    cases hc : cells[j]? with
    | none => rw [hc] at hj; cases hj
    | some e => rw [hc] at hj; cases hj; exact ih j e hc
def frzObS (σ : D → Option U) : Ob → Ob
  | .box cs => .box (cs.map (frzS σ))
  | .vec e sz rows => .vec e sz (rows.map fun r => r.map (frzS σ))
  | .map kk ag es => .map kk ag (es.map fun p => (p.1, p.2.map (frzS σ)))
  | .it kk ag es left cur => .it kk ag es left cur
theorem ObAt.frz {k k' : Kr} {σ : D → Option U} (hle : k.le k') (hf : ∀ d u v, σ d = some u → Rep k d v → RepU k'.mem u v) {w h ob} (ho : ObAt k w h ob) : ObAt k' w h (frzObS σ ob) := by
  cases ob with
  | box cs =>
    obtain ⟨b, vs, t, e, h1, h2, h3⟩ := ho
    refine ⟨b, vs, t, e, h1, by simpa using h2, fun j d hj => ?_⟩
    rw [List.getElem?_map] at hj
    cases hc : cs[j]? with
    | none => rw [hc] at hj; cases hj
    | some e => rw [hc] at hj; cases hj; exact ⟨(h3 j e hc).1, (h3 j e hc).2.frz hle hf⟩
  | it kk ag es left cur =>
    obtain ⟨b, e, h1⟩ := ho
    exact ⟨b, e, h1.keep hle.mem rfl⟩
  | map kk ag es =>
    obtain ⟨b, ents, clock, es0, e, h1, hpm, h2⟩ := ho
    have hget : ∀ i (p : Key × List D), (es0.map fun p => (p.1, p.2.map (frzS σ)))[i]? = some p → ∃ q : Key × List D, es0[i]? = some q ∧ p = (q.1, q.2.map (frzS σ)) := fun i p hp => by
      rw [List.getElem?_map] at hp
      cases hc : es0[i]? with
      | none => rw [hc] at hp; cases hp
      | some q => rw [hc] at hp; cases hp; exact ⟨q, hc, rfl⟩
    refine ⟨b, ents, clock, _, e, h1, hpm.map _, ⟨by simpa using h2.size, fun p hp => ?_, by rw [List.pairwise_map]; exact h2.once, fun i p hp => ?_, h2.born, h2.apart⟩⟩
    · obtain ⟨q, hq, rfl⟩ := List.mem_map.1 hp
      exact h2.kind q hq
    · obtain ⟨q, hq, rfl⟩ := hget i p hp
      obtain ⟨en, h3, h4, h5⟩ := h2.ent i q hq
      refine ⟨en, h3, h4, ?_⟩
      unfold MV at h5 ⊢
      split at h5
      · rename_i hag
        obtain ⟨vs, h6, h7, h8⟩ := h5
        rw [if_pos hag]
        refine ⟨vs, h6, by simpa using h7, fun j d hj => ?_⟩
        rw [List.getElem?_map] at hj
        cases hc : q.2[j]? with
        | none => rw [hc] at hj; cases hj
        | some x => rw [hc] at hj; cases hj; exact ⟨(h8 j x hc).1, (h8 j x hc).2.frz hle hf⟩
      · rename_i hag
        obtain ⟨d, h6, h7⟩ := h5
        rw [if_neg hag]
        exact ⟨_, by rw [h6]; rfl, h7.1, h7.2.frz hle hf⟩
  | vec e sz rows =>
    obtain ⟨xs, h1, h2, h3, h4⟩ := ho
    refine ⟨xs, by simpa using h1, h2, fun r hr => ?_, fun j r hr y d hy => ?_⟩
    · obtain ⟨q, hq, rfl⟩ := List.mem_map.1 hr
      simpa using h3 q hq
    · rw [List.getElem?_map] at hr
      cases hc : rows[j]? with
      | none => rw [hc] at hr; cases hr
      | some q =>
        rw [hc] at hr
        cases hr
        rw [List.getElem?_map] at hy
        cases hd : q[y]? with
        | none => rw [hd] at hy; cases hy
        | some e => rw [hd] at hy; cases hy; exact ⟨(h4 j q hc y e hd).1, (h4 j q hc y e hd).2.frz hle hf⟩
/-- The object under i is told as a value from now on; the objects js that name it are told anew. -/
def St.frzS (s : St) (i : Nat) (σ : D → Option U) (js : List Nat) : St :=
  { s with env := s.env.map (fun p => (p.1, VL.frzS σ p.2)), obs := (del s.obs i).map fun p => if js.contains p.1 then (p.1, frzObS σ p.2) else p }
theorem getK_map {α β : Type} (f : Nat → α → β) : ∀ (l : List (Nat × α)) (x : Nat), getK (l.map fun p => (p.1, f p.1 p.2)) x = (getK l x).map (f x)
  | [], _ => rfl
  | (k, d) :: l, x => by
    simp only [List.map_cons, getK_cons, getK_map f l x]
    by_cases h : x = k
    · subst h; simp
    · simp [h]
theorem Wk.frzS {Γ : Ctx} {s : St} (i : Nat) (js : List Nat) {ob : Ob} {σ : D → Option U} (hi : getK s.obs i = some ob)
    (hσ : ∀ (k : Kr) (w : World) (h : Option Nat × Nat) (m : Mem), k.hdr i = some h → ObAt k w h ob → k.mem.le m → (∀ b, h.1 = some b → ∀ o v, look w b o = some v → m b o = some v) → ∀ d u v, σ d = some u → Rep k d v → RepU m u v) : Wk Γ s (s.frzS i σ js) := by
  intro k a w hin hs
  obtain ⟨h, hh, hno, hat⟩ := hs.sat.ob i ob hi
  -- the new knowledge
  have hgl : ∀ b o v, k.mem b o = some v → (if h.1 = some b then look w b o else k.mem b o) = some v := fun b o v hv => by
    split
    · exact hs.sat.mem b o v hv
    · exact hv
  let k' : Kr := { mem := fun b o => if h.1 = some b then look w b o else k.mem b o, hdr := k.hdr, glob := k.glob.mono hgl }
  have hle : k.le k' := ⟨fun b o v hm => by
    show (if h.1 = some b then _ else _) = _
    rw [if_neg (fun hb => by rw [(hno b hb).2 o] at hm; cases hm)]
    exact hm, fun _ _ h => h⟩
  have hmem' : ∀ b o v, k'.mem b o = some v → look w b o = some v := fun b o v hm => by
    have hm' : (if h.1 = some b then look w b o else k.mem b o) = some v := hm
    by_cases hb : h.1 = some b
    · rw [if_pos hb] at hm'
      exact hm'
    · rw [if_neg hb] at hm'
      exact hs.sat.mem b o v hm'
  have hf : ∀ d u v, σ d = some u → Rep k d v → RepU k'.mem u v := hσ k w h k'.mem hh hat hle.mem fun b hb o v hv => by
    show (if h.1 = some b then look w b o else k.mem b o) = _
    rw [if_pos hb]
    exact hv
  have conv : ∀ x ox, getK (s.frzS i σ js).obs x = some ox → ∃ o', getK s.obs x = some o' ∧ x ≠ i ∧ (ox = o' ∨ ox = frzObS σ o') := fun x ox hx => by
    have : getK ((del s.obs i).map fun p => (p.1, if js.contains p.1 then frzObS σ p.2 else p.2)) x = some ox := by
      rw [← hx]
      simp only [St.frzS]
      congr 1
      apply List.map_congr_left
      intro p _
      split <;> rfl
    rw [getK_map (fun x (o : Ob) => if js.contains x then frzObS σ o else o), getK_del] at this
    by_cases hji : x = i
    · rw [if_pos hji] at this; cases this
    · rw [if_neg hji] at this
      cases ho : getK s.obs x with
      | none => rw [ho] at this; cases this
      | some ob0 =>
        rw [ho] at this
        simp only [Option.map_some, Option.some.injEq] at this
        refine ⟨ob0, rfl, hji, ?_⟩
        rw [← this]
        split
        · exact .inr rfl
        · exact .inl rfl
  refine ⟨k', hin.step hle (fun b o v hm => ?_) rfl rfl rfl (Nat.le_refl _) (fun _ _ => rfl), ⟨⟨hmem', fun j ob' hj => ?_, fun x y ox oy g g' b hx hy hxy hg hg' hb' => ?_⟩, hs.defers, hs.size, fun x d hx => ?_, hs.hdr⟩⟩
  · have hm' : (if h.1 = some b then look w b o else k.mem b o) = some v := hm
    by_cases hb : h.1 = some b
    · exact .inr (hno b hb).1
    · rw [if_neg hb] at hm'
      exact .inl hm'
  · obtain ⟨ob0, h1, h2, h3⟩ := conv j ob' hj
    obtain ⟨g, hg, hg1, hg2⟩ := hs.sat.ob j ob0 h1
    refine ⟨g, hg, fun b hb => ⟨(hg1 b hb).1, fun o => ?_⟩, ?_⟩
    · have hne : h.1 ≠ some b := fun e => hs.sat.apart i j _ ob0 h g b hi h1 (Ne.symm h2) hh hg e hb
      show (if h.1 = some b then _ else _) = _
      rw [if_neg hne]
      exact (hg1 b hb).2 o
    · rcases h3 with rfl | rfl
      · exact hg2.keep hle fun _ _ => rfl
      · exact hg2.frz hle hf
  · obtain ⟨o1, h1, _⟩ := conv x ox hx
    obtain ⟨o2, h2, _⟩ := conv y oy hy
    exact hs.sat.apart x y o1 o2 g g' b h1 h2 hxy hg hg' hb'
  · have hx' : getK (s.env.map fun p => (p.1, VL.frzS σ p.2)) x = some d := hx
    rw [getK_map (fun _ d => VL.frzS σ d)] at hx'
    cases he : getK s.env x with
    | none => rw [he] at hx'; cases hx'
    | some d0 =>
      rw [he] at hx'
      cases hx'
      exact ⟨(hs.env x d0 he).1, (hs.env x d0 he).2.frz hle hf⟩
/-- Rows that no one writes any more. -/
def fzVec (i : Nat) (us : List (List U)) : D → Option U
  | .vec j len => if j = i ∧ len ≤ us.length then some (.sl (us.take len)) else none
  | _ => none
/-- A map that no one writes any more. -/
def fzMap (i : Nat) (kk : KK) (ag : Bool) (us : List (Key × List U)) : D → Option U
  | .mp j => if j = i then some (.map kk ag us) else none
  | _ => none
/-- A variable that no one writes any more. -/
def fzBox (i : Nat) (us : List U) : D → Option U
  | .ptr j off => if j = i then some (.row us off) else none
  | _ => none
abbrev frz (i : Nat) (us : List (List U)) : D → D := frzS (fzVec i us)
abbrev frzOb (i : Nat) (us : List (List U)) : Ob → Ob := frzObS (fzVec i us)
abbrev St.frz (s : St) (i : Nat) (us : List (List U)) (js : List Nat) : St := s.frzS i (fzVec i us) js
theorem Wk.frz {Γ : Ctx} {s : St} (i : Nat) (js : List Nat) {e sz : Nat} {rows : List (List D)} {us : List (List U)} (hi : getK s.obs i = some (.vec e sz rows)) (hu : allU2 rows = some us) : Wk Γ s (s.frz i us js) := by
  refine Wk.frzS i js hi fun k w h m hh hat hkm hlk d u v hd hr => ?_
  obtain ⟨xs, hrow, hpos, hlen, hcells⟩ := hat
  have hrw := allU2_inv hu
  have hul : us.length = rows.length := by rw [hrw]; simp
  unfold fzVec at hd
  split at hd
  · rename_i j len
    split at hd
    · rename_i hc
      cases hd
      obtain ⟨rfl, hl⟩ := hc
      obtain ⟨g, hg, rfl⟩ := rep_vec hr
      rw [hh] at hg
      cases hg
      have hcell : ∀ b, h.1 = some b → ∀ j u, xs[j]? = some u → w.cell? ⟨b, j, none⟩ = some u := fun b hb j u hj => by
        have := hrow.cells (g := b) (by simp [headVal, Value.ownBlock, hb]) j u hj
        rwa [addr_add, Nat.zero_add] at this
      by_cases h0 : len = 0
      · subst h0
        rw [List.take_zero]
        exact .slE _ _ fun e => ownsRow_capNone hrow (by simpa using e)
      · rcases hrow.2 with ⟨hv, hz⟩ | ⟨g, cap, cur, hv, _, hheap, hncap, hcm, _, htake⟩
        · omega
        · obtain ⟨hb1, hb2⟩ : h.1 = some g ∧ h.2 = cap := by
            simp only [headVal, Value.slice.injEq, Option.map_eq_some_iff] at hv
            obtain ⟨⟨b, hb, e⟩, _, e2⟩ := hv
            simp only [Addr.mk.injEq] at e
            exact ⟨by rw [hb, e.1], e2⟩
          have hxl := hrow.1
          have := RepU.sl (m := m) (us.take len) g 0 sz h.2 (fun p q => xs.getD (p * sz + q) undef) (by simp; omega) (by omega) (fun r hr => ?_) (fun p hp q hq => ?_) (fun p r hr q u hq => ?_)
          · simpa [headVal, hb1, Nat.min_eq_left hl] using this
          · have hm := List.mem_of_mem_take hr
            have : r.map D.u ∈ rows := by rw [hrw]; exact List.mem_map.2 ⟨r, hm, rfl⟩
            simpa using hlen _ this
          · have hp' : p < rows.length := by simp at hp; omega
            have hb : p * sz + q < rows.length * sz := by
              have : (p + 1) * sz ≤ rows.length * sz := Nat.mul_le_mul_right _ hp'
              rw [Nat.add_mul, Nat.one_mul] at this
              omega
            refine hlk g hb1 _ _ (look_cell (hcell g hb1 _ _ ?_))
            rw [Nat.zero_add, List.getD_eq_getElem?_getD, List.getElem?_eq_getElem (by omega)]
            rfl
          · rw [List.getElem?_take] at hr
            split at hr
            · have hr' : rows[p]? = some (r.map D.u) := by rw [hrw, List.getElem?_map, hr]; rfl
              have hd := (hcells p _ hr' q (.u u) (by rw [List.getElem?_map, hq]; rfl)).2
              cases hd with | u _ _ hd => exact hd.mono hkm
            · cases hr
    · cases hd
  · cases hd
theorem Wk.frzM {Γ : Ctx} {s : St} (i : Nat) (js : List Nat) {kk : KK} {ag : Bool} {es : List (Key × List D)} {us : List (Key × List U)} (hi : getK s.obs i = some (.map kk ag es)) (hu : allUE es = some us) : Wk Γ s (s.frzS i (fzMap i kk ag us) js) := by
  refine Wk.frzS i js hi fun k w h m hh hat hkm hlk d u v hd hr => ?_
  obtain ⟨b, ents, clock, es0, hb, hheap, hpm, hm⟩ := hat
  unfold fzMap at hd
  split at hd
  · rename_i j
    split at hd
    · rename_i hc
      cases hd
      subst hc
      obtain ⟨b', c, hg, rfl⟩ := rep_mp hr
      rw [hh] at hg
      cases hg
      simp only [Option.some.injEq] at hb
      subst hb
      obtain ⟨us1, e1, hp1⟩ := perm_unmap (es := es0) (us := us) (by rw [← allUE_inv hu]; exact hpm)
      exact hm.toU e1 hp1 (hlk _ rfl _ _ (look_of_map hheap)) hkm
    · cases hd
  · cases hd
theorem Wk.frzB {Γ : Ctx} {s : St} (i : Nat) (js : List Nat) {cells : List D} {us : List U} (hi : getK s.obs i = some (.box cells)) (hu : allU cells = some us) : Wk Γ s (s.frzS i (fzBox i us) js) := by
  refine Wk.frzS i js hi fun k w h m hh hat hkm hlk d u v hd hr => ?_
  obtain ⟨b, vs, t, hb, hheap, hsz, hcells⟩ := hat
  have hinv := allU_inv hu
  have hul : us.length = cells.length := by rw [hinv]; simp
  unfold fzBox at hd
  split at hd
  · rename_i j off
    split at hd
    · rename_i hc
      cases hd
      subst hc
      obtain ⟨b', c, hg, rfl⟩ := rep_ptr hr
      rw [hh] at hg
      cases hg
      simp only [Option.some.injEq] at hb
      subst hb
      have := RepU.row (m := m) us off b' 0 (fun j => vs.getD j undef) (fun j hj => by
        refine hlk _ rfl _ _ (look_cell ?_)
        rw [Nat.zero_add, cell_of_row w b' j vs t (0, 0) hheap]
        simp [show j < vs.size by omega]) (fun j u hj => by
        have := (hcells j (.u u) (by rw [hinv, List.getElem?_map, hj]; rfl)).2
        cases this with | u _ _ this => exact this.mono hkm)
      simpa using this
    · cases hd
  · cases hd

-- only some slots; loops told by what they change
/-- The state with these slots alone, of which some are told anew. -/
def keepE (env : List (Nat × D)) : List Nat → List (Nat × D)
  | [] => []
  | x :: l => match getK env x with
    | some d => (x, d) :: keepE env l
    | none => keepE env l
def St.only (s : St) (live : List Nat) : St := { s with env := keepE s.env live }
theorem keepE_get {env : List (Nat × D)} : ∀ {live : List Nat} {x d}, getK (keepE env live) x = some d → getK env x = some d
  | [], x, d, h => by simp [keepE, getK] at h
  | y :: l, x, d, h => by
    simp only [keepE] at h
    split at h
    · rename_i e he
      rw [getK_cons] at h
      by_cases hx : x = y
      · rw [if_pos hx] at h; cases h; subst hx; exact he
      · rw [if_neg hx] at h; exact keepE_get h
    · exact keepE_get h
theorem Wk.only {Γ : Ctx} {s : St} (live : List Nat) : Wk Γ s (s.only live) := fun k _ _ hin hs =>
  ⟨k, hin, ⟨hs.sat, hs.defers, hs.size, fun x d hx => hs.env x d (keepE_get hx), hs.hdr⟩⟩
def St.lp (s : St) (live : List Nat) (F : List (Nat × D)) : St := { s with env := F ++ keepE s.env live }
/-- Slots told weaker, objects as they are. -/
def wkE (s : St) : List (Nat × D) → Prop
  | [] => True
  | p :: l => (∃ d, getK s.env p.1 = some d ∧ (d = p.2 ∨ p.2 = .any ∨ (d = .u .nil ∧ p.2 = .u (.sl [])))) ∧ wkE s l
theorem wkE_get {s : St} : ∀ {l : List (Nat × D)} {x d}, wkE s l → getK l x = some d → ∃ d0, getK s.env x = some d0 ∧ (d0 = d ∨ d = .any ∨ (d0 = .u .nil ∧ d = .u (.sl [])))
  | [], x, d, _, h => by simp [getK] at h
  | (y, e) :: l, x, d, hw, h => by
    rw [getK_cons] at h
    by_cases hx : x = y
    · rw [if_pos hx] at h; cases h; subst hx; exact hw.1
    · rw [if_neg hx] at h; exact wkE_get hw.2 h
/-- The same objects, the slots told weaker. -/
theorem Wk.env {Γ : Ctx} {s s' : St} (hn : s'.n = s.n) (ho : s'.obs = s.obs) (hx : s'.next = s.next) (he : wkE s s'.env) : Wk Γ s s' := by
  intro k a w hin hs
  refine ⟨k, hin, ⟨by rw [ho]; exact hs.sat, hs.defers, by rw [hn]; exact hs.size, fun x d hxd => ?_, fun i hi => hs.hdr i (by rw [← hx]; exact hi)⟩⟩
  obtain ⟨d0, h1, h2⟩ := wkE_get he hxd
  obtain ⟨h3, h4⟩ := hs.env x d0 h1
  refine ⟨by rw [hn]; exact h3, ?_⟩
  rcases h2 with rfl | rfl | ⟨rfl, rfl⟩
  · exact h4
  · exact .any _
  · rw [rep_nil h4]
    exact .u _ _ (.slE _ _ fun _ => rfl)
theorem V_loopF {P Γ Q k s} {c : Code} {α : Type} (live : List Nat) (F : α → List (Nat × D)) (μ : α → Nat) (x0 : α) (h0 : Wk Γ s (s.lp live (F x0)))
    (h : ∀ x, V P Γ c (s.lp live (F x)) (RunK P Γ Q (.loop (LoopW Γ (fun x => s.lp live (F x)) μ x) k))) : V P Γ (.loop c) s (RunK P Γ Q k) := V_loopW _ μ x0 h0 h
theorem V_loopO {P Γ Q k s} {c : Code} {α : Type} (live : List Nat) (F : α → List (Nat × D)) (O : α → List (Nat × Ob)) (nx : Nat) (μ : α → Nat) (x0 : α) (h0 : Wk Γ s { s.lp live (F x0) with obs := O x0, next := nx })
    (h : ∀ x, V P Γ c { s.lp live (F x) with obs := O x, next := nx } (RunK P Γ Q (.loop (LoopW Γ (fun x => { s.lp live (F x) with obs := O x, next := nx }) μ x) k))) : V P Γ (.loop c) s (RunK P Γ Q k) := V_loopW _ μ x0 h0 h
-- an empty slice: nil or not
theorem V_nilsplit {P Γ c s Q} {x : Nat} (hx : getK s.env x = some (.u (.sl []))) (h1 : V P Γ c { s with env := (x, .u .nil) :: s.env } Q)
    (h2 : ∀ a cp, V P Γ c { s with env := (x, .u (.oth (.slice (some a) 0 cp))) :: s.env } Q) : V P Γ c s Q := by
  intro K a w hin hs
  obtain ⟨hlt, hr⟩ := hs.env x _ hx
  have put : ∀ d, Rep K d (a.tmps.getD x undef) → Sim K Γ.own { s with env := (x, d) :: s.env } a w := fun d hd => ⟨hs.sat, hs.defers, hs.size, fun y e hy => by
    rw [getK_cons] at hy
    by_cases hyx : y = x
    · subst hyx; rw [if_pos rfl] at hy; cases hy; exact ⟨hlt, hd⟩
    · rw [if_neg hyx] at hy; exact hs.env y e hy, hs.hdr⟩
  generalize hv : a.tmps.getD x undef = v at hr
  cases hr with
  | u _ _ hr =>
    cases hr with
    | slE ad cp hn =>
      cases ad with
      | none =>
        have : cp = 0 := hn rfl
        subst this
        exact h1 K a w hin (put _ (by rw [hv]; exact .u _ _ .nil))
      | some ad => exact h2 ad cp K a w hin (put _ (by rw [hv]; exact .u _ _ (.oth _)))
    | sl _ b o sz cp f hc hxm hsz hm hr => exact h2 ⟨b, o, none⟩ cp K a w hin (put _ (by rw [hv]; exact .u _ _ (.oth _)))

-- what a call does not know of stays as it is
theorem Ret.congr {P f ds obs obs' nx post} (h : Ret P f ds obs nx post) (e : ∀ i, getK obs' i = getK obs i) : Ret P f ds obs' nx post :=
  fun k own w vs hsat hhdr hfresh hrep => h k own w vs (Sat.congr hsat fun i => (e i).symm) hhdr hfresh hrep
theorem Ret.frame {P f ds obs nx post} (F : List (Nat × Ob)) (hF : ∀ i ob, getK F i = some ob → getK obs i = none) (h : Ret P f ds obs nx post) :
    Ret P f ds (F ++ obs) nx (fun d o n => ∃ o1, o = F ++ o1 ∧ post d o1 n) := by
  intro k own w vs hsat hhdr hfresh hrep
  have hob : ∀ i ob, getK obs i = some ob → getK F i = none ∧ getK (F ++ obs) i = some ob := fun i ob hi => by
    have hn : getK F i = none := by
      cases hf : getK F i with
      | none => rfl
      | some x => rw [hF i x hf] at hi; cases hi
    exact ⟨hn, by rw [getK_append, hn]; exact hi⟩
  have hfo : ∀ i ob, getK F i = some ob → getK (F ++ obs) i = some ob := fun i ob hi => by rw [getK_append, hi]
  have hbf : ∀ b, Blk k F b → Blk k (F ++ obs) b := fun b ⟨i, ob, g, h1, h2, h3⟩ => ⟨i, ob, g, hfo i ob h1, h2, h3⟩
  have hsat' : Sat k (fun b => own b ∧ ¬ Blk k F b) obs w := by
    refine ⟨hsat.mem, fun i ob hi => ?_, fun i j x y g g' b hx hy hij => ?_⟩
    · obtain ⟨hn, hi'⟩ := hob i ob hi
      obtain ⟨g, h1, h2, h3⟩ := hsat.ob i ob hi'
      refine ⟨g, h1, fun b hb => ⟨⟨(h2 b hb).1, ?_⟩, (h2 b hb).2⟩, h3⟩
      rintro ⟨j, oj, g', h4, h5, h6⟩
      exact hsat.apart i j ob oj g g' b hi' (hfo j oj h4) (fun e => by subst e; rw [hn] at h4; cases h4) h1 h5 hb h6
    · exact hsat.apart i j x y g g' b (hob i x hx).2 (hob j y hy).2 hij
  refine (h k _ w vs hsat' hhdr (fun b hb => ⟨hfresh b hb, fun hB => absurd (hsat.lt (hbf b hB)) (by omega)⟩) hrep).mono ?_
  rintro e w' ⟨v, d, o1, n', k', he, hin, hs1, hh1, hle, hr1, hp⟩
  refine ⟨v, d, F ++ o1, n', k', he, ⟨hin.le, hin.none0, fun b o x hx => (hin.memNew b o x hx).imp id (·.1), hfresh, hin.os, hin.tape, hin.output, hin.size, fun b hb => hin.block b fun hb' => hb hb'.1⟩, ?_, hh1, hle, hr1, o1, rfl, hp⟩
  have hFat : ∀ i ob, getK F i = some ob → ∃ g, k.hdr i = some g ∧ k'.hdr i = some g ∧ (∀ b, g.1 = some b → own b ∧ (∀ o, k'.mem b o = none) ∧ Blk k F b) ∧ ObAt k' w' g ob := fun i ob hi => by
    obtain ⟨g, h1, h2, h3⟩ := hsat.ob i ob (hfo i ob hi)
    have hB : ∀ b, g.1 = some b → Blk k F b := fun b hb => ⟨i, ob, g, hi, h1, hb⟩
    refine ⟨g, h1, hin.le.hdr i g h1, fun b hb => ⟨(h2 b hb).1, fun o => ?_, hB b hb⟩, h3.keep hin.le fun b hb => hin.block b fun hb' => hb'.2 (hB b hb)⟩
    cases hm : k'.mem b o with
    | none => rfl
    | some x =>
      rcases hin.memNew b o x hm with h4 | h4
      · have h4' : k.mem b o = some x := h4
        rw [(h2 b hb).2 o] at h4'; cases h4'
      · exact absurd (hB b hb) h4.2
  refine ⟨hs1.mem, fun i ob hi => ?_, fun i j x y g g' b hx hy hij hg hg' hb => ?_⟩
  · rw [getK_append] at hi
    cases hf : getK F i with
    | some x =>
      rw [hf] at hi
      cases hi
      obtain ⟨g, _, h2, h3, h4⟩ := hFat i _ hf
      exact ⟨g, h2, fun b hb => ⟨(h3 b hb).1, (h3 b hb).2.1⟩, h4⟩
    | none =>
      rw [hf] at hi
      obtain ⟨g, h1, h2, h3⟩ := hs1.ob i ob hi
      exact ⟨g, h1, fun b hb => ⟨(h2 b hb).1.1, (h2 b hb).2⟩, h3⟩
  · rw [getK_append] at hx hy
    cases hfx : getK F i with
    | some x' =>
      obtain ⟨g1, k1, k2, k3, _⟩ := hFat i _ hfx
      rw [hg] at k2
      cases k2
      cases hfy : getK F j with
      | some y' =>
        obtain ⟨g2, l1, l2, l3, _⟩ := hFat j _ hfy
        rw [hg'] at l2
        cases l2
        exact hsat.apart i j x' y' g g' b (hfo i _ hfx) (hfo j _ hfy) hij k1 l1 hb
      | none =>
        rw [hfy] at hy
        obtain ⟨g2, l1, l2, _⟩ := hs1.ob j y hy
        rw [hg'] at l1
        cases l1
        exact fun e => (l2 b e).1.2 (k3 b hb).2.2
    | none =>
      rw [hfx] at hx
      cases hfy : getK F j with
      | some y' =>
        obtain ⟨g2, l1, l2, l3, _⟩ := hFat j _ hfy
        rw [hg'] at l2
        cases l2
        obtain ⟨g1, k1, k2, _⟩ := hs1.ob i x hx
        rw [hg] at k1
        cases k1
        exact fun e => (k2 b hb).1.2 (l3 b e).2.2
      | none =>
        rw [hfy] at hy
        exact hs1.apart i j x y g g' b hx hy hij hg hg' hb
/-- A call of which the objects obs alone are told; the objects F stay. -/
theorem CallP.retF {P : Program} {Γ : Ctx} {s : St} {k : St → Prop} {dst : Option Tmp} {fop : Operand} {args : List Operand} {f caps} {ds : List D} {post : D → List (Nat × Ob) → Nat → Prop} (F obs : List (Nat × Ob)) (hret : Ret P f ds obs s.next post)
    (heq : ∀ i, getK s.obs i = getK (F ++ obs) i) (hF : ∀ i ob, getK F i = some ob → getK obs i = none)
    (hf : calleeOf (opd s fop) = some (f, caps)) (hc : callable P f = true) (hds : args.map (opd s) ++ caps = ds) (hp : putOK dst s)
    (hk : ∀ d o1 nx', s.next ≤ nx' → post d o1 nx' → k (({ s with obs := F ++ o1, next := nx' } : St).put dst d)) : CallP P Γ fop args dst s k :=
  CallP.ret_ ((hret.frame F hF).congr heq) hf hc hds hp fun d o n hn ⟨o1, ho, hpo⟩ => by subst ho; exact hk d o1 n hn hpo
/-- A struct's field types. -/
def stT (P : Program) (t : TypeId) : Option (List TypeId) := match P.underlying t with | some (.struct fs) => some (fs.toList.map (·.type)) | _ => none
end Go.VL
