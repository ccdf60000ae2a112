/- The calculus of values: a statement whose operations Go may carry out in more than one order, and that makes or changes objects: one evaluation in the text's order, and a look at what each operation touches, serve for all orders. -/
import Derived.Test.YtblmompdcammeaaVLu
set_option linter.all false
namespace Go.VL
open Go

-- the changes of the operations that have been carried out, the last first
def wlog (W : Nat → Wr) (S : Nat → Bool) : Nat → Wr
  | 0 => []
  | m + 1 => if S m then W m ++ wlog W S m else wlog W S m
theorem getK_append {α : Type} (a b : List (Nat × α)) (y : Nat) : getK (a ++ b) y = match getK a y with | some x => some x | none => getK b y := by
  induction a with
  | nil => rfl
  | cons p a ih =>
    obtain ⟨k, d⟩ := p
    rw [List.cons_append, getK_cons, getK_cons, ih]
    split <;> rfl
def keys (w : Wr) : List Nat := w.map (·.1)
theorem getK_keys {α : Type} : ∀ (w : List (Nat × α)) (y : Nat), y ∉ w.map (·.1) → getK w y = none
  | [], _, _ => rfl
  | (k, d) :: w, y, h => by
    simp only [List.map_cons, List.mem_cons, not_or] at h
    rw [getK_cons, if_neg h.1]
    exact getK_keys w y h.2
theorem getK_isKey {α : Type} : ∀ (w : List (Nat × α)) (y : Nat), y ∈ w.map (·.1) → ∃ x, getK w y = some x
  | [], _, h => by cases h
  | (k, d) :: w, y, h => by
    rw [getK_cons]
    by_cases hy : y = k
    · exact ⟨d, by rw [if_pos hy]⟩
    · rw [if_neg hy]
      simp only [List.map_cons, List.mem_cons] at h
      exact getK_isKey w y (h.resolve_left hy)
theorem wlog_congr (W : Nat → Wr) (S S' : Nat → Bool) (y : Nat) : ∀ m, (∀ j, j < m → y ∈ keys (W j) → S j = S' j) → getK (wlog W S m) y = getK (wlog W S' m) y
  | 0, _ => rfl
  | m + 1, h => by
    have ih := wlog_congr W S S' y m fun j hj => h j (by omega)
    simp only [wlog]
    by_cases hy : y ∈ keys (W m)
    · rw [h m (by omega) hy]
      split
      · rw [getK_append, getK_append, ih]
      · exact ih
    · have hk := getK_keys (W m) y hy
      have : ∀ (b : Bool) (L : Wr), getK (if b then W m ++ L else L) y = getK L y := fun b L => by
        cases b
        · rfl
        · rw [if_pos rfl, getK_append, hk]
      rw [this, this, ih]
theorem wlog_put (W : Nat → Wr) (S : Nat → Bool) (i y : Nat) (hy : y ∈ keys (W i)) : ∀ m, i < m → (∀ j, j < m → i < j → y ∈ keys (W j) → S j = false) →
    getK (wlog W (fun j => S j || j == i) m) y = getK (W i) y
  | 0, h, _ => absurd h (Nat.not_lt_zero _)
  | m + 1, h, hj => by
    simp only [wlog]
    by_cases he : m = i
    · subst he
      obtain ⟨x, hx⟩ := getK_isKey (W m) y hy
      simp only [beq_self_eq_true, Bool.or_true, if_true, getK_append, hx]
    · have ih := wlog_put W S i y hy m (by omega) fun j h1 h2 => hj j (by omega) h2
      by_cases hk : y ∈ keys (W m)
      · have : (S m || m == i) = false := by rw [hj m (by omega) (by omega) hk]; simp [he]
        rw [if_neg (by simp [this])]
        exact ih
      · have hkn := getK_keys (W m) y hk
        split
        · rw [getK_append, hkn]; exact ih
        · exact ih

/-- The same state, however its slots and its objects are listed. -/
def St.Eqo (s s' : St) : Prop := s.n = s'.n ∧ (∀ x, getK s.obs x = getK s'.obs x) ∧ s.next = s'.next ∧ ∀ x, getK s.env x = getK s'.env x
theorem Sat.eqo {k own obs obs' w} (h : Sat k own obs w) (e : ∀ x, getK obs x = getK obs' x) : Sat k own obs' w :=
  ⟨h.mem, fun i ob hi => h.ob i ob (by rw [e]; exact hi), fun i j x y hh g b hx hy => h.apart i j x y hh g b (by rw [e]; exact hx) (by rw [e]; exact hy)⟩
theorem Sim.eqo {k own s s' a w} (h : Sim k own s a w) (e : s.Eqo s') : Sim k own s' a w :=
  ⟨h.sat.eqo e.2.1, h.defers, by rw [← e.1]; exact h.size, fun x d hx => by rw [← e.1]; exact h.env x d (by rw [e.2.2.2 x]; exact hx), by rw [← e.2.2.1]; exact h.hdr⟩

-- values that name known objects alone
def Good (ρ : Nat → Nat) (M : Nat) (d : D) : Prop := d.ren ρ = d ∧ d.under M = true
theorem good_list {ρ M} {cs : List D} {k : Kr} {vs : List Value} (hl : cs.length = vs.length) (ih : ∀ (j : Nat) (d : D), cs[j]? = some d → Good ρ M d) : cs.map (fun d => d.ren ρ) = cs ∧ (cs.map fun d => d.under M).all id = true := by
  refine ⟨?_, ?_⟩
  · refine List.ext_getElem? fun j => ?_
    rw [List.getElem?_map]
    cases hj : cs[j]? with
    | none => rfl
    | some d => simp [(ih j d hj).1]
  · simp only [List.all_map, List.all_eq_true]
    intro d hd
    obtain ⟨j, hj⟩ := List.getElem?_of_mem hd
    exact (ih j d hj).2
theorem Rep.good {ρ : Nat → Nat} {M : Nat} {k : Kr} (hk : ∀ i h, k.hdr i = some h → ρ i = i ∧ i < M) {d : D} {v : Value} (h : Rep k d v) : Good ρ M d := by
  induction h with
  | u x v h => exact ⟨by simp [D.ren], by simp [D.under]⟩
  | any v => exact ⟨by simp [D.ren], by simp [D.under]⟩
  | ptr i off b c h => obtain ⟨h1, h2⟩ := hk _ _ h; exact ⟨by simp [D.ren, h1], by simp [D.under, h2]⟩
  | vec i len h hh => obtain ⟨h1, h2⟩ := hk _ _ hh; exact ⟨by simp [D.ren, h1], by simp [D.under, h2]⟩
  | elt i sz idx off b c h => obtain ⟨h1, h2⟩ := hk _ _ h; exact ⟨by simp [D.ren, h1], by simp [D.under, h2]⟩
  | fnc f caps vs hl hr ih => obtain ⟨h1, h2⟩ := good_list (k := k) hl ih; exact ⟨by rw [D.ren, h1], by rw [D.under]; exact h2⟩
  | agg cells vs hl hr ih => obtain ⟨h1, h2⟩ := good_list (k := k) hl ih; exact ⟨by rw [D.ren, h1], by rw [D.under]; exact h2⟩
  | tup cells vs hl hr ih => obtain ⟨h1, h2⟩ := good_list (k := k) hl ih; exact ⟨by rw [D.ren, h1], by rw [D.under]; exact h2⟩
theorem Good.agg {ρ M cs} (h : Good ρ M (.agg cs)) : ∀ c ∈ cs, Good ρ M c := by
  intro c hc
  obtain ⟨h1, h2⟩ := h
  rw [D.ren] at h1
  rw [D.under] at h2
  obtain ⟨j, hj⟩ := List.getElem?_of_mem hc
  have e : cs.map (fun d => d.ren ρ) = cs := by injection h1
  refine ⟨?_, ?_⟩
  · have := congrArg (·[j]?) e
    simp [hj] at this
    exact this
  · simp only [List.all_map, List.all_eq_true] at h2
    exact h2 c hc
theorem ObOK.good {ρ M k own w i ob} (hk : ∀ i h, k.hdr i = some h → ρ i = i ∧ i < M) (h : ObOK k own w i ob) : ob.all (Good ρ M) := by
  cases ob with
  | box cells =>
    obtain ⟨b, c, vs, t, _, _, _, _, hc, _⟩ := h.box
    intro c hm
    obtain ⟨j, hj⟩ := List.getElem?_of_mem hm
    exact (hc j c hj).2.good hk
  | vec e sz rows =>
    obtain ⟨_, xs, _, _, _, _, hc, _⟩ := h.vec
    intro r hr c hm
    obtain ⟨q, hq⟩ := List.getElem?_of_mem hr
    obtain ⟨j, hj⟩ := List.getElem?_of_mem hm
    exact (hc q r hq j c hj).2.good hk
theorem Ob.all_le {ρ M ob} (h : Ob.all (Good ρ M) ob) : Ob.le ρ ob ob ∧ ob.under M = true := by
  have le : ∀ c, Good ρ M c → D.le ρ c c := fun c hc => .inr (.inl hc.1.symm)
  cases ob with
  | box cs =>
    refine ⟨⟨rfl, fun j c c' hj hj' => ?_⟩, List.all_eq_true.2 fun c hc => (h c hc).2⟩
    rw [hj] at hj'
    cases hj'
    exact le c (h c (List.mem_of_getElem? hj))
  | vec e sz rows =>
    refine ⟨⟨rfl, rfl, Nat.le_refl _, fun i r r' hi hi' => ?_⟩, List.all_eq_true.2 fun r hr => List.all_eq_true.2 fun c hc => (h r hr c hc).2⟩
    rw [hi] at hi'
    cases hi'
    refine ⟨rfl, fun j c c' hj hj' => ?_⟩
    rw [hj] at hj'
    cases hj'
    exact le c (h r (List.mem_of_getElem? hi) c (List.mem_of_getElem? hj))

def stW (ops : List Oper) (T : Nat → D) (W : Nat → Wr) (s : St) (M : Nat) (S : Nat → Bool) : St :=
  { n := s.n, env := envF T S ops 0 s.env, obs := applyW (wlog W S ops.length) s.obs, next := M }
/-- What an operation does at a state. -/
def Op1 (P : Program) (s : St) (op : Op) (dst : Option Tmp) (d : D) (W : Wr) (cr : Option Nat) (R : List Nat) : Prop :=
  (valD P s op (· = d) ∧ W = [] ∧ cr = none ∧ R = rdIds s op) ∨
  ∃ e, effD P s op (· = e) ∧ R = rdIds s op ∧ match e.nw with
    | none => dst = none ∧ W = e.U ∧ cr = none
    | some ob => ∃ x, cr = some x ∧ W = (x, some ob) :: e.U ∧ d = mkD e.how x
def OpG (P : Program) (all : Array Oper) (s : St) (o : Oper) (d : D) (W : Wr) (cr : Option Nat) (R : List Nat) : Prop :=
  match o.guard with
  | none => Op1 P s o.op o.dst d W cr R
  | some (j, want) => ∃ t, guardTmp all j = some t ∧ ((∃ b, getK s.env t = some (.u (.bool b)) ∧
    if b = want then valD P s o.op (· = d) ∧ W = [] ∧ cr = none ∧ R = rdIds s o.op else d = .un ∧ W = [] ∧ cr = none) ∨ (getK s.env t = some .un ∧ d = .un ∧ W = [] ∧ cr = none))

set_option maxHeartbeats 4000000 in
theorem V_draw2 {P Γ} {Q : Exit → St → Prop} {kt : Kt} {id : Nat} {ops : List Oper} {T : Nat → D} {W : Nat → Wr} {cr : Nat → Option Nat} {R : Nat → List Nat} {s : St} {M : Nat}
    (hm : P.follows .mixedOrders = true) (hord : ordOK ops = true) (hn0 : Γ.n0 ≤ s.next) (hM : s.next ≤ M)
    (hcr : ∀ i x, cr i = some x → s.next ≤ x ∧ x < M) (hcr1 : ∀ i j x, cr i = some x → cr j = some x → i = j)
    (hpair : ∀ i j, i < j → j < ops.length → befB ops ops.length i j = false → (∀ y ∈ keys (W i), y ∉ R j ∧ y ∉ keys (W j)) ∧ ∀ y ∈ keys (W j), y ∉ R i)
    (hval : ∀ i o, ops[i]? = some o → putOK o.dst s ∧ OpG P ops.toArray (stW ops T W s M fun j => decide (j < i)) o (T i) (W i) (cr i) (R i))
    (hfin : ∃ s', (stW ops T W s M fun _ => true).Eqo s' ∧ RunK P Γ Q kt .normal s') : V P Γ (.region id ops.toArray true) s (RunK P Γ Q kt) := by
  intro K a w hin hs
  refine wp_region_any hm ?_
  have hin0 : In Γ K { w with drawn := w.drawn + 1 } := ⟨hin.le, hin.none0, hin.memNew, hin.fresh, hin.os, hin.tape, hin.output, hin.size, hin.block⟩
  have hs0 : Sim K Γ.own s a { w with drawn := w.drawn + 1 } := ⟨⟨hs.sat.mem, fun i ob hi => by
      obtain ⟨h, h1, h2, h3⟩ := hs.sat.ob i ob hi
      exact ⟨h, h1, h2, h3.keep (.refl _) fun b e => rfl⟩, hs.sat.apart⟩, hs.defers, hs.size, hs.env, hs.hdr⟩
  generalize ({ w with drawn := w.drawn + 1 } : World) = w0 at hin0 hs0
  have key : ∀ (fuel : Nat) (listed : Array Bool) (K : Kr) (a : Act) (w : World), listed.size = ops.length → (listed.toList.filter (! ·)).length ≤ fuel →
      (∀ j y, ops[j]? = some y → listed.getD j false = true → ∀ p ∈ dirPred y, listed.getD p false = true) → In Γ K w → Sim K Γ.own (stW ops T W s M fun j => listed.getD j false) a w →
      (∀ j x, j < ops.length → listed.getD j false = false → cr j = some x → K.hdr x = none) →
      wpAny P .any ops.toArray (fun e a' w' => ∃ K' s', In Γ K' w' ∧ Sim K' Γ.own s' a' w' ∧ RunK P Γ Q kt e s') fuel listed a w := by
    have allDone : ∀ (listed : Array Bool) (K : Kr) (a : Act) (w : World), (∀ j, j < ops.length → listed.getD j false = true) → In Γ K w → Sim K Γ.own (stW ops T W s M fun j => listed.getD j false) a w →
        ∃ K' s', In Γ K' w ∧ Sim K' Γ.own s' a w ∧ RunK P Γ Q kt .normal s' := fun listed K a w hall hin hs => by
      obtain ⟨s', he, hfin⟩ := hfin
      refine ⟨K, _, hin, Sim.eqo (hs.eqo ?_) he, hfin⟩
      refine ⟨rfl, fun x => ?_, rfl, fun x => ?_⟩
      · simp only [stW, getK_applyW]
        rw [wlog_congr W _ (fun _ => true) x ops.length fun j hj _ => hall j hj]
      · exact envF_congr T _ _ x ops 0 s.env s.env rfl fun j o hj _ => by
          have hl := (List.getElem?_eq_some_iff.1 hj).1
          simp only [Nat.zero_add]
          exact hall j hl
    have least : ∀ (listed : Array Bool), listed.size = ops.length → ∀ i, i < ops.length → listed.getD i false = false → ∃ i0, i0 ∈ Region.ready .any ops.toArray listed := fun listed hsz i hi hu => by
      induction i using Nat.strongRecOn with
      | _ i ih =>
        have ho : ops[i]? = some ops[i] := List.getElem?_eq_getElem hi
        by_cases hp : ∀ p ∈ dirPred ops[i], listed.getD p false = true
        · refine ⟨i, mem_ready.2 ⟨?_, ops[i], by simp, fun e he hb => hp e.on ?_⟩⟩
          · have hi' : i < listed.size := by omega
            simp [hi'] at hu ⊢
            exact hu
          · simp only [dirPred, List.mem_map, List.mem_filter]
            exact ⟨e, ⟨by simpa using he, hb⟩, rfl⟩
        · simp only [Classical.not_forall] at hp
          obtain ⟨p, hpm, hpu⟩ := hp
          have hlt := (ord_pred hord ho).1 p hpm
          exact ih p hlt (by omega) (by simpa using hpu)
    intro fuel
    induction fuel with
    | zero =>
      intro listed K a w hsz hcnt hcl hin hs _
      have hall : ∀ j, j < ops.length → listed.getD j false = true := fun j hj => by
        have hj' : j < listed.size := by omega
        have h0 : (listed.toList.filter (! ·)) = [] := List.eq_nil_of_length_eq_zero (by omega)
        have := (List.filter_eq_nil_iff.1 h0) listed[j] (by simp)
        simp only [Bool.not_eq_true', Bool.not_eq_false] at this
        simp [hj', this]
      refine ⟨?_, allDone listed K a w hall hin hs⟩
      refine List.eq_nil_iff_forall_not_mem.2 fun i hi => ?_
      obtain ⟨h1, o, ho, _⟩ := mem_ready.1 hi
      have hl : i < ops.length := by
        have := (Array.getElem?_eq_some_iff.1 ho).1
        simpa using this
      have := hall i hl
      have hi' : i < listed.size := by omega
      simp [hi'] at h1 this
      rw [h1] at this
      cases this
    | succ fuel ih =>
      intro listed K a w hsz hcnt hcl hin hs hfr
      refine ⟨fun hnil => allDone listed K a w (fun j hj => ?_) hin hs, fun i hi => ?_⟩
      · cases hu : listed.getD j false with
        | true => rfl
        | false =>
          obtain ⟨i0, h0⟩ := least listed hsz j hj hu
          rw [hnil] at h0
          cases h0
      · obtain ⟨hun, o, ho, hall⟩ := mem_ready.1 hi
        have ho' : ops[i]? = some o := by simpa using ho
        have hil := (List.getElem?_eq_some_iff.1 ho').1
        have hil' : i < listed.size := by omega
        have hunf : listed.getD i false = false := by simp [hil'] at hun ⊢; exact hun
        have hpred : ∀ p ∈ dirPred o, listed.getD p false = true := fun p hp => by
          simp only [dirPred, List.mem_map, List.mem_filter] at hp
          obtain ⟨e, ⟨he, hb⟩, rfl⟩ := hp
          exact hall e (by simpa using he) hb
        obtain ⟨hpo, hv⟩ := hval i o ho'
        have bef1 : ∀ j, befB ops ops.length j i = true → listed.getD j false = true := fun j hb => bef_closed hcl _ j i o ho' hpred hb
        have bef2 : ∀ j x, ops[j]? = some x → befB ops ops.length i j = true → listed.getD j false = false := fun j x hj hb => by
          cases hu : listed.getD j false with
          | false => rfl
          | true =>
            have := bef_closed hcl _ i j x hj (hcl j x hj hu) hb
            rw [hunf] at this
            cases this
        -- who writes a slot that this operation looks at, or writes
        have before : ∀ j x, ops[j]? = some x → j < i → meets ops.toArray x o = true ∨ meets ops.toArray o x = true → listed.getD j false = true := fun j x hj hlt hmm =>
          bef1 j ((ord_pred hord ho').2.2 j x hlt hj hmm)
        have behind : ∀ j x, ops[j]? = some x → i < j → meets ops.toArray x o = true ∨ meets ops.toArray o x = true → listed.getD j false = false := fun j x hj hlt hmm =>
          bef2 j x hj ((ord_pred hord hj).2.2 i o hlt ho' hmm.symm)
        have agree : ∀ t, t ∈ o.looksAt ops.toArray → getK (envF T (fun j => listed.getD j false) ops 0 s.env) t = getK (envF T (fun j => decide (j < i)) ops 0 s.env) t := fun t ht => by
          refine envF_congr T _ _ t ops 0 s.env s.env rfl fun j x hj hx => ?_
          simp only [Nat.zero_add]
          have hmm : meets ops.toArray x o = true := by simp [meets, hx, ht]
          rcases Nat.lt_trichotomy j i with h | h | h
          · rw [before j x hj h (.inl hmm)]; simp [h]
          · subst h; rw [hunf]; simp
          · rw [behind j x hj h (.inl hmm)]; simp; omega
        have hopd : ∀ x ∈ o.op.operands, opd (stW ops T W s M fun j => decide (j < i)) x = opd (stW ops T W s M fun j => listed.getD j false) x := fun x hx => by
          cases x with
          | tmp t =>
            simp only [opd, St.at, stW]
            rw [agree t (List.mem_append_left _ (List.mem_filterMap.2 ⟨.tmp t, by simpa using hx, rfl⟩))]
          | _ => rfl
        -- who changes an object that this operation looks at
        have hloc : ∀ y ∈ R i, getK (stW ops T W s M fun j => decide (j < i)).obs y = getK (stW ops T W s M fun j => listed.getD j false).obs y := fun y hy => by
          simp only [stW, getK_applyW]
          rw [wlog_congr W (fun j => decide (j < i)) (fun j => listed.getD j false) y ops.length fun j hj hk => ?_]
          rcases Nat.lt_trichotomy j i with h | h | h
          · have hb : befB ops ops.length j i = true := by
              cases hb : befB ops ops.length j i with
              | true => rfl
              | false => exact absurd hy (((hpair j i h hil hb).1 y hk).1)
            rw [bef1 j hb]
            simp [h]
          · subst h; rw [hunf]; simp
          · have hb : befB ops ops.length i j = true := by
              cases hb : befB ops ops.length i j with
              | true => rfl
              | false => exact absurd hy ((hpair i j h hj hb).2 y hk)
            rw [bef2 j _ (List.getElem?_eq_getElem hj) hb]
            simp; omega
        have hlast : ∀ y ∈ keys (W i), ∀ j, j < ops.length → i < j → y ∈ keys (W j) → listed.getD j false = false := fun y hy j hj hlt hk => by
          have hb : befB ops ops.length i j = true := by
            cases hb : befB ops ops.length i j with
            | true => rfl
            | false => exact absurd hk ((hpair i j hlt hj hb).1 y hy).2
          exact bef2 j _ (List.getElem?_eq_getElem hj) hb
        have hS : (fun j => (listed.setIfInBounds i true).getD j false) = fun j => listed.getD j false || j == i := funext fun j => by
          by_cases hji : j = i
          · subst hji; simp [hil']
          · simp [Array.getElem?_setIfInBounds_ne (Ne.symm hji), hji]
        -- the slots behind this operation
        have henv : ∀ (x : Nat), o.dst = some x → getK (envF T (fun j => listed.getD j false || j == i) ops 0 s.env) x = some (T i) := fun x hdx =>
          envF_put T _ i x ops 0 s.env i o ho' (by omega) hdx fun j o' hj hlt hd' => by
            rw [Nat.zero_add]
            exact behind j o' hj hlt (.inl (by simp [meets, hd', hdx]))
        have henv' : ∀ (x : Nat), o.dst ≠ some x → getK (envF T (fun j => listed.getD j false || j == i) ops 0 s.env) x = getK (envF T (fun j => listed.getD j false) ops 0 s.env) x := fun x hdx =>
          envF_congr T _ (fun j => listed.getD j false) x ops 0 s.env s.env rfl fun j o' hj hd' => by
            simp only [Nat.zero_add]
            have : j ≠ i := fun e => by subst e; rw [ho'] at hj; cases hj; exact hdx hd'
            simp [this]
        have go : ∀ K' a' w', In Γ K' w' → Sim K' Γ.own (stW ops T W s M fun j => listed.getD j false || j == i) a' w' →
            (∀ j x, j < ops.length → (listed.getD j false || j == i) = false → cr j = some x → K'.hdr x = none) →
            wpAny P .any ops.toArray (fun e a' w' => ∃ K' s', In Γ K' w' ∧ Sim K' Γ.own s' a' w' ∧ RunK P Γ Q kt e s') fuel (listed.setIfInBounds i true) a' w' := fun K' a' w' h1 h2 h3 => by
          have hS' : ∀ j, (listed.setIfInBounds i true).getD j false = (listed.getD j false || j == i) := fun j => congrFun hS j
          refine ih (listed.setIfInBounds i true) K' a' w' (by simp [hsz]) ?_ (fun j y hj hSj p hp => ?_) h1 (by rw [hS]; exact h2) (fun j x hj hu => h3 j x hj (by rw [← hS']; exact hu))
          · have cnt : ∀ (l : List Bool) (n : Nat), l[n]? = some false → ((l.set n true).filter (! ·)).length + 1 = (l.filter (! ·)).length := by
              intro l
              induction l with
              | nil => intro n h; simp at h
              | cons b l ih =>
                intro n h
                cases n with
                | zero => simp at h; subst h; simp
                | succ n =>
                  have := ih n (by simpa using h)
                  cases b <;> simp at this ⊢ <;> omega
            have := cnt listed.toList i (by
              rw [Array.getElem?_toList, Array.getElem?_eq_getElem hil']
              simp [hil'] at hunf
              rw [hunf])
            rw [Array.toList_setIfInBounds]
            omega
          · rw [hS'] at hSj ⊢
            simp only [Bool.or_eq_true, beq_iff_eq] at hSj ⊢
            rcases hSj with hSj | rfl
            · exact .inl (hcl j y hj hSj p hp)
            · rw [ho'] at hj
              cases hj
              exact .inl (hpred p hp)
        -- an operation that changes nothing
        have next : W i = [] → ∀ K' v w', In Γ K' w' → K.le K' → K'.hdr = K.hdr → Sat K' Γ.own (stW ops T W s M fun j => listed.getD j false).obs w' → Rep K' (T i) v →
            wpAny P .any ops.toArray (fun e a' w' => ∃ K' s', In Γ K' w' ∧ Sim K' Γ.own s' a' w' ∧ RunK P Γ Q kt e s') fuel (listed.setIfInBounds i true) (a.put o.dst v) w' := fun hW K' v w' h1 h2 h3 h4 h5 => by
          refine go K' _ w' h1 ?_ fun j x hj hu hc => by
            rw [h3]
            simp only [Bool.or_eq_false_iff] at hu
            exact hfr j x hj hu.1 hc
          have hdef : (a.put o.dst v).defers = [] := by cases o.dst <;> exact hs.defers
          have hsize : (a.put o.dst v).tmps.size = s.n := by
            have hsz2 : a.tmps.size = s.n := hs.size
            cases o.dst <;> simp [Act.put, hsz2]
          refine ⟨h4.eqo fun y => ?_, hdef, hsize, fun x d hx => ?_, fun j hj => by rw [h3]; exact hs.hdr j hj⟩
          · simp only [stW, getK_applyW]
            rw [wlog_congr W (fun j => listed.getD j false) (fun j => listed.getD j false || j == i) y ops.length fun j hj hk => ?_]
            by_cases hji : j = i
            · subst hji; rw [hW] at hk; cases hk
            · simp [hji]
          · simp only [stW] at hx
            by_cases hdx : o.dst = some x
            · rw [henv x hdx] at hx
              cases hx
              have hlt : x < s.n := by rw [hdx] at hpo; exact hpo
              refine ⟨hlt, ?_⟩
              have hsz' : a.tmps.size = s.n := hs.size
              rw [hdx]
              simpa [Act.put, hsz', hlt] using h5
            · rw [henv' x hdx] at hx
              obtain ⟨g1, g2⟩ := hs.env x d hx
              refine ⟨g1, ?_⟩
              have e : (a.put o.dst v).tmps.getD x undef = a.tmps.getD x undef := by
                cases hd : o.dst with
                | none => rfl
                | some y =>
                  have hne : y ≠ x := fun e => hdx (by rw [hd, e])
                  simp [Act.put, Array.getElem?_setIfInBounds_ne hne]
              rw [e]
              exact g2.mono h2
        unfold wpOp
        rw [ho]
        simp only
        unfold OpG at hv
        split at hv
        · rename_i hg
          have hw : Region.wanted o (yielded ops.toArray a.tmps) = true := by simp [Region.wanted, hg]
          rw [if_pos hw]
          rcases hv with ⟨hv, hW, hcn, hR⟩ | ⟨e, he, hR, hcase⟩
          · replace hv := valD_loc (s := stW ops T W s M fun j => decide (j < i)) (s' := stW ops T W s M fun j => listed.getD j false) (by rw [← hR]; exact hloc) hopd hv
            exact .inl (valD_run hv hin hs fun K' v w' h1 h2 h3 h4 h5 => next hW K' v w' h1 h2 h3 h4 h5)
          · -- an operation that changes or makes an object
            replace he := effD_loc (s := stW ops T W s M fun j => decide (j < i)) (s' := stW ops T W s M fun j => listed.getD j false) (by rw [← hR]; exact hloc) hopd he
            let un : Nat → Prop := fun y => ∃ j, j < ops.length ∧ (listed.getD j false || j == i) = false ∧ cr j = some y
            let ρ : Nat → Nat := fun y => open Classical in if cr i = some y then M else if un y then M + 1 + y else y
            have hknown : ∀ y h, K.hdr y = some h → ρ y = y ∧ y < M := fun y h hy => by
              have h1 : cr i ≠ some y := fun e => by rw [hfr i y hil hunf e] at hy; cases hy
              have h2 : ¬ un y := fun ⟨j, hj, hu, hc⟩ => by
                simp only [Bool.or_eq_false_iff] at hu
                rw [hfr j y hj hu.1 hc] at hy
                cases hy
              refine ⟨by simp only [ρ]; rw [if_neg h1, if_neg h2], ?_⟩
              rcases Nat.lt_or_ge y M with h | h
              · exact h
              · rw [hs.hdr y h] at hy; cases hy
            have hobs : ∀ y ob, getK (stW ops T W s M fun j => listed.getD j false).obs y = some ob → (ρ y = y ∧ y < M) ∧ ob.all (Good ρ M) := fun y ob hy => by
              have hok := hs.sat.ob y ob hy
              obtain ⟨h, h1, _⟩ := hok
              exact ⟨hknown y h h1, (hs.sat.ob y ob hy).good hknown⟩
            have hgood := effD_all (g := Good ρ M) (fun _ => ⟨by simp [D.ren], by simp [D.under]⟩) (fun cs h => h.agg) he (fun x hx => (opd_rep hs x).good hknown) (fun y ob hy => (hobs y ob hy).2)
            obtain ⟨e', he', ⟨rfl, hgU, hgN⟩⟩ := Lin.effD.2 _ hgood
            have he2 : effD P (stW ops T W s M fun j => listed.getD j false) o.op fun e => putOK o.dst (stW ops T W s M fun j => listed.getD j false) ∧ (e.nw = none → o.dst = none) ∧
                ((stW ops T W s M fun j => listed.getD j false).effS e o.dst) = (stW ops T W s M fun j => listed.getD j false).effS e' o.dst :=
              Lin.effD.1 _ _ (fun e hee => by
                subst hee
                refine ⟨hpo, fun hn => ?_, rfl⟩
                rw [hn] at hcase
                exact hcase.1) he
            refine .inl (hstep_eff (k := fun s' => s' = (stW ops T W s M fun j => listed.getD j false).effS e' o.dst) (effD_hstep he2) hg K a w hin hs _ _ fun K' a' w' s' h1 h2 h3 => ?_)
            subst h3
            have hle : St.Le Γ.n0 ρ ((stW ops T W s M fun j => listed.getD j false).effS e' o.dst) (stW ops T W s M fun j => listed.getD j false || j == i) := by
              have hWi : ∀ y, y ∈ keys (W i) → getK (wlog W (fun j => listed.getD j false || j == i) ops.length) y = getK (W i) y := fun y hy =>
                wlog_put W _ i y hy ops.length hil fun j hj hlt hk => hlast y hy j hj hlt hk
              have hWn : ∀ y, y ∉ keys (W i) → getK (wlog W (fun j => listed.getD j false || j == i) ops.length) y = getK (wlog W (fun j => listed.getD j false) ops.length) y := fun y hy =>
                wlog_congr W _ _ y ops.length fun j hj hk => by
                  by_cases hji : j = i
                  · subst hji; exact absurd hk hy
                  · simp [hji]
              have hinj : ∀ y1 y2, y1 < M → y2 < M → ρ y1 = ρ y2 → y1 = y2 := fun y1 y2 g1 g2 hr => by
                simp only [ρ] at hr
                by_cases c1 : cr i = some y1 <;> by_cases c2 : cr i = some y2
                · rw [c1] at c2; cases c2; rfl
                · rw [if_pos c1, if_neg c2] at hr
                  split at hr <;> omega
                · rw [if_neg c1, if_pos c2] at hr
                  split at hr <;> omega
                · rw [if_neg c1, if_neg c2] at hr
                  split at hr <;> split at hr <;> omega
              have hobs2 : ∀ y ob', getK (stW ops T W s M fun j => listed.getD j false || j == i).obs y = some ob' → y < M ∧
                  ∃ ob, getK ((stW ops T W s M fun j => listed.getD j false).effS e' o.dst).obs (ρ y) = some ob ∧ Ob.le ρ ob ob' ∧ ob'.under M = true := fun y ob' hy => by
                simp only [stW, getK_applyW] at hy
                cases hn : e'.nw with
                | none =>
                  rw [hn] at hcase
                  obtain ⟨hd0, hWU, hcn⟩ := hcase
                  have hob : ∀ z, getK ((stW ops T W s M fun j => listed.getD j false).effS e' o.dst).obs z = match getK (W i) z with | some x => x | none => getK (stW ops T W s M fun j => listed.getD j false).obs z := fun z => by
                    simp only [St.effS, hn, getK_applyW, hWU]
                    rfl
                  by_cases hk : y ∈ keys (W i)
                  · rw [hWi y hk] at hy
                    obtain ⟨x, hx⟩ := getK_isKey (W i) y hk
                    rw [hx] at hy
                    simp only at hy
                    subst hy
                    have hmem : (y, some ob') ∈ e'.U := by
                      rw [← hWU]
                      have : ∀ (l : Wr), getK l y = some (some ob') → (y, some ob') ∈ l := by
                        intro l
                        induction l with
                        | nil => intro h; cases h
                        | cons p l ih =>
                          obtain ⟨k', d'⟩ := p
                          intro h
                          rw [getK_cons] at h
                          by_cases hyk : y = k'
                          · rw [if_pos hyk] at h; cases h; subst hyk; simp
                          · rw [if_neg hyk] at h; exact List.mem_cons_of_mem _ (ih h)
                      exact this _ hx
                    obtain ⟨hga, o0, ho0⟩ := hgU _ hmem ob' rfl
                    obtain ⟨⟨hr, hlt⟩, _⟩ := hobs y o0 ho0
                    refine ⟨hlt, ob', ?_, (Ob.all_le hga).1, (Ob.all_le hga).2⟩
                    rw [hr, hob, hx]
                  · rw [hWn y hk] at hy
                    obtain ⟨⟨hr, hlt⟩, hga⟩ := hobs y ob' (by simp only [stW, getK_applyW]; exact hy)
                    refine ⟨hlt, ob', ?_, (Ob.all_le hga).1, (Ob.all_le hga).2⟩
                    rw [hr, hob, getK_keys (W i) y hk]
                    simp only [stW, getK_applyW]
                    exact hy
                | some nb =>
                  rw [hn] at hcase
                  obtain ⟨x0, hcx, hWU, hTi⟩ := hcase
                  have hx0 := hcr i x0 hcx
                  have hob : ∀ z, z ≠ M → getK ((stW ops T W s M fun j => listed.getD j false).effS e' o.dst).obs z = match getK e'.U z with | some x => x | none => getK (stW ops T W s M fun j => listed.getD j false).obs z := fun z hz => by
                    have : ∀ (q : St) (d : D), (q.put o.dst d).obs = q.obs := fun q d => by cases o.dst <;> rfl
                    simp only [St.effS, hn, this, getK_cons]
                    rw [if_neg (by simpa [stW] using hz), getK_applyW]
                    rfl
                  have hobM : getK ((stW ops T W s M fun j => listed.getD j false).effS e' o.dst).obs M = some nb := by
                    have : ∀ (q : St) (d : D), (q.put o.dst d).obs = q.obs := fun q d => by cases o.dst <;> rfl
                    simp only [St.effS, hn, this, getK_cons]
                    rw [if_pos (by simp [stW])]
                  by_cases hyx : y = x0
                  · subst hyx
                    have hk : y ∈ keys (W i) := by rw [hWU]; simp [keys]
                    rw [hWi y hk, hWU, getK_cons, if_pos rfl] at hy
                    simp only at hy
                    cases hy
                    have hga := hgN ob' hn
                    refine ⟨hx0.2, ob', ?_, (Ob.all_le hga).1, (Ob.all_le hga).2⟩
                    simp only [ρ]
                    rw [if_pos hcx]
                    exact hobM
                  · by_cases hk : y ∈ keys (W i)
                    · rw [hWi y hk, hWU, getK_cons, if_neg hyx] at hy
                      have hk' : y ∈ e'.U.map (·.1) := by
                        rw [hWU] at hk
                        simp only [keys, List.map_cons, List.mem_cons] at hk
                        exact hk.resolve_left hyx
                      obtain ⟨x, hx⟩ := getK_isKey e'.U y hk'
                      rw [hx] at hy
                      simp only at hy
                      subst hy
                      have hmem : (y, some ob') ∈ e'.U := by
                        have : ∀ (l : Wr), getK l y = some (some ob') → (y, some ob') ∈ l := by
                          intro l
                          induction l with
                          | nil => intro h; cases h
                          | cons p l ih =>
                            obtain ⟨k', d'⟩ := p
                            intro h
                            rw [getK_cons] at h
                            by_cases hyk : y = k'
                            · rw [if_pos hyk] at h; cases h; subst hyk; simp
                            · rw [if_neg hyk] at h; exact List.mem_cons_of_mem _ (ih h)
                        exact this _ hx
                      obtain ⟨hga, o0, ho0⟩ := hgU _ hmem ob' rfl
                      obtain ⟨⟨hr, hlt⟩, _⟩ := hobs y o0 ho0
                      refine ⟨hlt, ob', ?_, (Ob.all_le hga).1, (Ob.all_le hga).2⟩
                      rw [hr, hob y (by omega), hx]
                    · rw [hWn y hk] at hy
                      obtain ⟨⟨hr, hlt⟩, hga⟩ := hobs y ob' (by simp only [stW, getK_applyW]; exact hy)
                      refine ⟨hlt, ob', ?_, (Ob.all_le hga).1, (Ob.all_le hga).2⟩
                      have hk' : y ∉ e'.U.map (·.1) := by
                        rw [hWU] at hk
                        simp only [keys, List.map_cons, List.mem_cons, not_or] at hk
                        exact hk.2
                      rw [hr, hob y (by omega), getK_keys e'.U y hk']
                      simp only [stW, getK_applyW]
                      exact hy
              have henv2 : ∀ x d', getK (stW ops T W s M fun j => listed.getD j false || j == i).env x = some d' →
                  (D.le ρ (((stW ops T W s M fun j => listed.getD j false).effS e' o.dst).at x) d' ∧ d'.under M = true) ∧ x < s.n := fun x d' hx => by
                simp only [stW] at hx
                by_cases hdx : o.dst = some x
                · rw [henv x hdx] at hx
                  cases hx
                  have hlt : x < s.n := by rw [hdx] at hpo; exact hpo
                  cases hn : e'.nw with
                  | none =>
                    rw [hn] at hcase
                    rw [hcase.1] at hdx
                    cases hdx
                  | some nb =>
                    rw [hn] at hcase
                    obtain ⟨x0, hcx, hWU, hTi⟩ := hcase
                    have hx0 := hcr i x0 hcx
                    have hρ : ρ x0 = M := by simp only [ρ]; rw [if_pos hcx]
                    refine ⟨⟨.inr (.inl ?_), ?_⟩, hlt⟩
                    · rw [hTi]
                      simp only [St.effS, hn, hdx, St.put, St.at, getK_cons, if_true, Option.getD_some]
                      cases e'.how <;> simp [mkD, D.ren, hρ, stW]
                    · rw [hTi]
                      cases e'.how <;> simp [mkD, D.under, hx0.2]
                · rw [henv' x hdx] at hx
                  obtain ⟨g1, g2⟩ := hs.env x d' hx
                  have hgd := g2.good hknown
                  have hat : ((stW ops T W s M fun j => listed.getD j false).effS e' o.dst).at x = d' := by
                    have : ∀ (q : St) (d : D), getK (q.put o.dst d).env x = getK q.env x := fun q d => by
                      cases hd : o.dst with
                      | none => rfl
                      | some y =>
                        have hne : ¬ x = y := fun e => hdx (by rw [hd, e])
                        simp only [St.put, getK_cons, if_neg hne]
                    simp only [St.at, St.effS]
                    cases hn : e'.nw with
                    | none => simp only [stW, hx]; rfl
                    | some nb => simp only [this, stW, hx]; rfl
                  rw [hat]
                  exact ⟨⟨.inr (.inl hgd.1.symm), hgd.2⟩, g1⟩
              refine ⟨?_, fun x d' hx => (henv2 x d' hx).1, fun x d' hx => ?_, hobs2, fun y1 y2 o1 o2 g1 g2 hr => hinj y1 y2 (hobs2 y1 o1 g1).1 (hobs2 y2 o2 g2).1 hr, fun j hj => ?_⟩
              · have : ∀ (q : St) (d : D), (q.put o.dst d).n = q.n := fun q d => by cases o.dst <;> rfl
                simp only [St.effS]
                cases e'.nw <;> simp only [this] <;> rfl
              · have : ∀ (q : St) (d : D), (q.put o.dst d).n = q.n := fun q d => by cases o.dst <;> rfl
                have e2 : ((stW ops T W s M fun j => listed.getD j false).effS e' o.dst).n = s.n := by
                  simp only [St.effS]
                  cases e'.nw <;> simp only [this] <;> rfl
                rw [e2]
                exact (henv2 x d' hx).2
              · have c1 : cr i ≠ some j := fun e => by have := (hcr i j e).1; omega
                have c2 : ¬ un j := fun ⟨q, _, _, hc⟩ => by have := (hcr q j hc).1; omega
                refine ⟨by simp only [ρ]; rw [if_neg c1, if_neg c2], ?_⟩
                show j < M
                omega
            obtain ⟨g1, g2⟩ := Sim.weak h1 h2 hle
            refine go _ a' w' g1 g2 fun j x hj hu hc => ?_
            simp only [Kr.ren]
            split
            · have c1 : cr i ≠ some x := fun e => by
                have := hcr1 i j x e hc
                subst this
                simp at hu
              have c2 : un x := ⟨j, hj, hu, hc⟩
              simp only [ρ]
              rw [if_neg c1, if_pos c2]
              refine h2.hdr _ ?_
              have : ∀ (q : St) (d : D), (q.put o.dst d).next = q.next := fun q d => by cases o.dst <;> rfl
              simp only [St.effS]
              cases e'.nw <;> simp only [this, stW] <;> omega
            · rfl
        · rename_i j want hg
          obtain ⟨t, ht, hv⟩ := hv
          have lift : ∀ dd, getK (stW ops T W s M fun j => decide (j < i)).env t = some dd → getK (stW ops T W s M fun j => listed.getD j false).env t = some dd := fun dd hb => by
            simp only [stW] at hb ⊢
            rw [agree t (by
              refine List.mem_append_right _ ?_
              unfold guardTmp at ht
              simp only [hg]
              rw [ht]
              simp)]
            exact hb
          rcases hv with ⟨b, hb, hv⟩ | ⟨hb, hv⟩
          · have hb' := lift _ hb
            obtain ⟨hlt, hr⟩ := hs.getK hb'
            have hbv := rep_bool hr
            have hyd : yielded ops.toArray a.tmps j = some b := by
              unfold yielded
              unfold guardTmp at ht
              rw [ht]
              simp only [Option.bind_some]
              have : a.tmps[t]? = some (.bool b) := by
                rw [Array.getElem?_eq_getElem hlt]
                simp [hlt] at hbv
                rw [hbv]
              rw [this]
            by_cases hbw : b = want
            · rw [if_pos hbw] at hv
              have hw : Region.wanted o (yielded ops.toArray a.tmps) = true := by simp [Region.wanted, hg, hyd, hbw]
              rw [if_pos hw]
              obtain ⟨hv, hW, hcn, hR⟩ := hv
              replace hv := valD_loc (s := stW ops T W s M fun j => decide (j < i)) (s' := stW ops T W s M fun j => listed.getD j false) (by rw [← hR]; exact hloc) hopd hv
              exact .inl (valD_run hv hin hs fun K' v w' h1 h2 h3 h4 h5 => next hW K' v w' h1 h2 h3 h4 h5)
            · rw [if_neg hbw] at hv
              have hw : Region.wanted o (yielded ops.toArray a.tmps) = false := by simp [Region.wanted, hg, hyd, hbw]
              rw [if_neg (by rw [hw]; simp)]
              exact next hv.2.1 K undef w hin (.refl _) rfl hs.sat (by rw [hv.1]; exact .u _ _ (.oth _))
          · have hb' := lift _ hb
            obtain ⟨hlt, hr⟩ := hs.getK hb'
            have hbv := rep_oth hr
            have hyd : yielded ops.toArray a.tmps j = none := by
              unfold yielded
              unfold guardTmp at ht
              rw [ht]
              simp only [Option.bind_some]
              have : a.tmps[t]? = some undef := by
                rw [Array.getElem?_eq_getElem hlt]
                simp [hlt] at hbv
                rw [hbv]
              rw [this]
              rfl
            have hw : Region.wanted o (yielded ops.toArray a.tmps) = false := by simp [Region.wanted, hg, hyd]
            rw [if_neg (by rw [hw]; simp)]
            exact next hv.2.1 K undef w hin (.refl _) rfl hs.sat (by rw [hv.1]; exact .u _ _ (.oth _))
  have h0 : (fun j => (Array.replicate ops.toArray.size false).getD j false) = fun _ => false := funext fun j => by
    by_cases hj : j < ops.length <;> simp [hj]
  refine key _ _ K a w0 (by simp) (by simp) (fun j y hj hS => ?_) hin0 ?_ fun j x _ _ hc => hs.hdr x (hcr j x hc).1
  · have : (Array.replicate ops.toArray.size false).getD j false = false := congrFun h0 j
    rw [this] at hS
    cases hS
  · rw [h0]
    have none : ∀ (l : List Oper) (i : Nat) (e : List (Nat × D)), envF T (fun _ => false) l i e = e := by
      intro l
      induction l with
      | nil => intro i e; rfl
      | cons o l ih => intro i e; simp [envF, ih]
    have wn : ∀ m, wlog W (fun _ => false) m = [] := by
      intro m
      induction m with
      | zero => rfl
      | succ m ih => simp [wlog, ih]
    refine ⟨hs0.sat.eqo fun y => ?_, hs0.defers, hs0.size, fun x d hx => hs0.env x d ?_, fun y hy => hs0.hdr y (Nat.le_trans hM hy)⟩
    · simp only [stW, wn]; rfl
    · simp only [stW, none] at hx; exact hx
end Go.VL
