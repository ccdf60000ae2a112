/- The calculus of values: statements of any order with calls that change objects, or panic. -/
import Derived.Test.YtdkadmchdocjbaaVLX
set_option linter.all false
set_option maxRecDepth 100000
set_option maxHeartbeats 8000000
set_option linter.all false
namespace Go.VL
open Go
/-- A call that is sure to panic, wherever its operands and objects are as here. -/
def StopE (P : Program) (Γ : Ctx) (s : St) (op : Op) : Prop :=
  ∀ s' : St, s'.n = s.n → (∀ y, getK s'.obs y = getK s.obs y) → (∀ x ∈ op.operands, opd s' x = opd s x) → s.next ≤ s'.next → ∀ o : Oper, o.op = op → o.guard = none → putOK o.dst s' → EffP P Γ o s' fun _ => False
/-- A call that changes the objects it is handed, and makes none. -/
def CallE (P : Program) (N : Nat) (s : St) (op : Op) (d : D) (W : Wr) (R : List Nat) : Prop :=
  ∃ fop args f caps, ∃ (O O' : List (Nat × Ob)) (L : List Nat), callOf op = some (fop, args) ∧ calleeOf (opd s fop) = some (f, caps) ∧ callable P f = true ∧ R = O.map (·.1) ∧ W = (O'.filter fun p => L.contains p.1).map (fun p => (p.1, some p.2)) ∧ O'.map (·.1) = O.map (·.1) ∧
    (∀ y, L.contains y = false → getK O' y = getK O y) ∧ (∀ p ∈ O, getK s.obs p.1 = some p.2) ∧ (O.map (·.1)).Nodup ∧ (d.under N = true ∧ ∀ p ∈ O', p.2.under N = true) ∧
    ∀ nx, s.next ≤ nx → RetX P f (args.map (opd s) ++ caps) O nx fun r o n => r = .val d ∧ (∀ y, getK o y = getK O' y) ∧ n = nx
/-- A call that changes nothing of what it is handed, and makes one object. -/
def CallN (P : Program) (N : Nat) (s : St) (op : Op) (d : D) (W : Wr) (cr : Option Nat) (R : List Nat) : Prop :=
  ∃ fop args f caps, ∃ (O : List (Nat × Ob)) (e : ERes) (nb : Ob) (x0 : Nat), callOf op = some (fop, args) ∧ calleeOf (opd s fop) = some (f, caps) ∧ callable P f = true ∧ R = O.map (·.1) ∧ (e.U = [] ∧ e.nw = some nb ∧ nb.under N = true) ∧
    (cr = some x0 ∧ W = (x0, some nb) :: e.U ∧ d = mkD e.how x0) ∧ (∀ p ∈ O, getK s.obs p.1 = some p.2) ∧
    ∀ nx, s.next ≤ nx → RetX P f (args.map (opd s) ++ caps) O nx fun r o n => r = .val (mkD e.how nx) ∧ (∀ y, getK o y = getK ((nx, nb) :: O) y) ∧ n = nx + 1
def Op1X (P : Program) (N : Nat) (s : St) (op : Op) (dst : Option Tmp) (d : D) (W : Wr) (cr : Option Nat) (R : List Nat) : Prop :=
  Op1 P s op dst d W cr R ∨ (CallE P N s op d W R ∧ cr = none) ∨ CallN P N s op d W cr R
def OpGX (P : Program) (N : Nat) (all : Array Oper) (s : St) (o : Oper) (d : D) (W : Wr) (cr : Option Nat) (R : List Nat) : Prop :=
  match o.guard with
  | none => Op1X P N s o.op o.dst d W cr R
  | some (j, want) => ∃ t, guardTmp all j = some t ∧ ((∃ b, getK s.env t = some (.u (.bool b)) ∧
    if b = want then Op1X P N s o.op o.dst d W cr R else d = .un ∧ W = [] ∧ cr = none) ∨ (getK s.env t = some .un ∧ d = .un ∧ W = [] ∧ cr = none))
theorem getK_filterN {α : Type} (l : List (Nat × α)) (c : List Nat) (y : Nat) : getK (l.filter fun p => !c.contains p.1) y = if c.contains y = true then none else getK l y := by
  induction l with
  | nil => simp [getK]
  | cons p l ih =>
    obtain ⟨k, x⟩ := p
    rw [List.filter_cons]
    by_cases hk : c.contains k = true
    · rw [if_neg (by simpa using hk), ih, getK_cons]
      by_cases hy : y = k
      · subst hy; rw [if_pos hk, if_pos hk]
      · rw [if_neg hy]
    · rw [if_pos (by simpa using hk), getK_cons, getK_cons, ih]
      by_cases hy : y = k
      · subst hy; rw [if_pos rfl, if_pos rfl, if_neg hk]
      · rw [if_neg hy, if_neg hy]
theorem getK_filterK {α : Type} (l : List (Nat × α)) (c : List Nat) (y : Nat) : getK (l.filter fun p => c.contains p.1) y = if c.contains y = true then getK l y else none := by
  induction l with
  | nil => simp [getK]
  | cons p l ih =>
    obtain ⟨k, x⟩ := p
    rw [List.filter_cons]
    by_cases hk : c.contains k = true
    · rw [if_pos (by exact hk), getK_cons, getK_cons, ih]
      by_cases hy : y = k
      · subst hy; rw [if_pos rfl, if_pos rfl, if_pos hk]
      · rw [if_neg hy, if_neg hy]
    · rw [if_neg (by exact hk), ih, getK_cons]
      by_cases hy : y = k
      · subst hy; rw [if_neg hk, if_neg hk]
      · rw [if_neg hy]
theorem getK_memK {α : Type} {l : List (Nat × α)} {y : Nat} {x : α} (h : getK l y = some x) : (y, x) ∈ l := by
  induction l with
  | nil => cases h
  | cons p l ih =>
    obtain ⟨k, d⟩ := p
    rw [getK_cons] at h
    by_cases hyk : y = k
    · rw [if_pos hyk] at h; cases h; subst hyk; simp
    · rw [if_neg hyk] at h; exact List.mem_cons_of_mem _ (ih h)
theorem getK_isSome {α : Type} {l : List (Nat × α)} {y : Nat} (h : y ∈ l.map (·.1)) : ∃ x, getK l y = some x := by
  induction l with
  | nil => cases h
  | cons p l ih =>
    obtain ⟨k, d⟩ := p
    rw [getK_cons]
    by_cases hyk : y = k
    · exact ⟨d, by rw [if_pos hyk]⟩
    · rw [if_neg hyk]
      simp only [List.map_cons, List.mem_cons] at h
      exact ih (h.resolve_left hyk)
theorem getK_ofMem {α : Type} {l : List (Nat × α)} (hn : (l.map (·.1)).Nodup) {y : Nat} {x : α} (h : (y, x) ∈ l) : getK l y = some x := by
  induction l with
  | nil => cases h
  | cons p l ih =>
    obtain ⟨k, d⟩ := p
    rw [List.map_cons, List.nodup_cons] at hn
    rw [getK_cons]
    rcases List.mem_cons.1 h with h | h
    · cases h; rw [if_pos rfl]
    · have hne : ¬ y = k := fun e => hn.1 (List.mem_map.2 ⟨(y, x), h, e⟩)
      rw [if_neg hne, ih hn.2 h]
theorem getK_some_map (O : List (Nat × Ob)) (y : Nat) : getK (O.map fun p => (p.1, some p.2) : Wr) y = (getK O y).map some := by
  induction O with
  | nil => rfl
  | cons p l ih =>
    obtain ⟨k, d⟩ := p
    rw [List.map_cons, getK_cons, getK_cons, ih]
    split <;> rfl
theorem good_under {ρ : Nat → Nat} {N M : Nat} (hρ : ∀ y, y < N → ρ y = y) (hNM : N ≤ M) : ∀ {d : D}, d.under N = true → Good ρ M d
  | .u x, _ => ⟨by simp [D.ren], by simp [D.under]⟩
  | .any, _ => ⟨by simp [D.ren], by simp [D.under]⟩
  | .ptr i off, h => by simp [D.under] at h; exact ⟨by simp [D.ren, hρ i h], by simp [D.under]; omega⟩
  | .vec i len, h => by simp [D.under] at h; exact ⟨by simp [D.ren, hρ i h], by simp [D.under]; omega⟩
  | .mp i, h => by simp [D.under] at h; exact ⟨by simp [D.ren, hρ i h], by simp [D.under]; omega⟩
  | .elt i sz idx off, h => by simp [D.under] at h; exact ⟨by simp [D.ren, hρ i h], by simp [D.under]; omega⟩
  | .fnc f caps, h => by
    have hc : ∀ c ∈ caps, Good ρ M c := fun c hc => good_under hρ hNM (by rw [D.under] at h; simp only [List.all_map, List.all_eq_true] at h; exact h c hc)
    refine ⟨by rw [D.ren]; congr 1; exact (List.map_congr_left fun c hc' => (hc c hc').1).trans (List.map_id _), ?_⟩
    rw [D.under]
    simp only [List.all_map, List.all_eq_true]
    exact fun c hc' => (hc c hc').2
  | .agg caps, h => by
    have hc : ∀ c ∈ caps, Good ρ M c := fun c hc => good_under hρ hNM (by rw [D.under] at h; simp only [List.all_map, List.all_eq_true] at h; exact h c hc)
    refine ⟨by rw [D.ren]; congr 1; exact (List.map_congr_left fun c hc' => (hc c hc').1).trans (List.map_id _), ?_⟩
    rw [D.under]
    simp only [List.all_map, List.all_eq_true]
    exact fun c hc' => (hc c hc').2
  | .tup caps, h => by
    have hc : ∀ c ∈ caps, Good ρ M c := fun c hc => good_under hρ hNM (by rw [D.under] at h; simp only [List.all_map, List.all_eq_true] at h; exact h c hc)
    refine ⟨by rw [D.ren]; congr 1; exact (List.map_congr_left fun c hc' => (hc c hc').1).trans (List.map_id _), ?_⟩
    rw [D.under]
    simp only [List.all_map, List.all_eq_true]
    exact fun c hc' => (hc c hc').2
theorem ob_good_under {ρ : Nat → Nat} {N M : Nat} (hρ : ∀ y, y < N → ρ y = y) (hNM : N ≤ M) {ob : Ob} (h : ob.under N = true) : ob.all (Good ρ M) := by
  cases ob with
  | it => trivial
  | box cs => exact fun c hc => good_under hρ hNM ((List.all_eq_true.1 h) c hc)
  | vec e sz rows => exact fun r hr c hc => good_under hρ hNM ((List.all_eq_true.1 ((List.all_eq_true.1 h) r hr)) c hc)
  | map kk ag es => exact fun p hp c hc => good_under hρ hNM ((List.all_eq_true.1 ((List.all_eq_true.1 h) p hp)) c hc)

/-- What comes before stands before. -/
theorem befB_lt {ops : List Oper} (hord : ordOK ops = true) : ∀ {i j : Nat} {y : Oper}, ops[j]? = some y → befB ops ops.length i j = true → i < j := by
  have key : ∀ (n i j : Nat) (y : Oper), ops[j]? = some y → befB ops n i j = true → i < j := by
    intro n
    induction n with
    | zero => intro i j y hj h; simp [befB] at h
    | succ n ih =>
      intro i j y hj h
      simp only [befB, hj] at h
      rw [List.any_eq_true] at h
      obtain ⟨p, hp, h⟩ := h
      have hlt := (ord_pred hord hj).1 p hp
      simp only [Bool.or_eq_true, beq_iff_eq] at h
      rcases h with rfl | h
      · exact hlt
      · have hpl : p < ops.length := by have := (List.getElem?_eq_some_iff.1 hj).1; omega
        have := ih i p _ (List.getElem?_eq_getElem hpl) h
        omega
  exact fun {i j y} hj h => key _ i j y hj h
theorem EffP.guard {P Γ s k} {dst op type pos after guard} (h : EffP P Γ { dst, op, type, pos, after, guard := none } s k) : EffP P Γ { dst, op, type, pos, after, guard } s k := h
set_option maxHeartbeats 4000000 in
theorem V_draw4 {P Γ} {Q : Exit → St → Prop} {kt : Kt} {id : Nat} {ops : List Oper} {T : Nat → D} {W : Nat → Wr} {cr : Nat → Option Nat} {R : Nat → List Nat} {kd : Nat → Nat} {s : St} {M : Nat}
    (hm : P.follows .mixedOrders = true) (hord : ordOK ops = true) (hn0 : Γ.n0 ≤ s.next) (hM : s.next ≤ M)
    (hcr : ∀ i x, cr i = some x → s.next ≤ x ∧ x < M) (hcr1 : ∀ i j x, cr i = some x → cr j = some x → i = j)
    (hpair : ∀ i j, i < j → j < ops.length → befB ops ops.length i j = false → (∀ y ∈ keys (W i), y ∉ R j ∧ y ∉ keys (W j)) ∧ ∀ y ∈ keys (W j), y ∉ R i)
    (hkd : ∀ i, kd i ≠ 0 → W i = [] ∧ cr i = none) (hstop : ∀ p i, kd p = 1 → i < ops.length → W i ≠ [] → befB ops ops.length i p = true ∨ befB ops ops.length p i = true)
    (hval : ∀ i o, ops[i]? = some o → putOK o.dst s ∧ if kd i = 2 then ∃ p, kd p = 1 ∧ p < ops.length ∧ befB ops ops.length p i = true else if kd i = 1 then o.guard = none ∧ StopE P Γ (stW ops T W s M fun j => decide (j < i)) o.op else
      OpGX P s.next ops.toArray (stW ops T W s M fun j => decide (j < i)) o (T i) (W i) (cr i) (R i))
    (hfin : (∀ i, i < ops.length → kd i ≠ 1) → ∃ s', (stW ops T W s M fun _ => true).Eqo s' ∧ RunK P Γ Q kt .normal s') : V P Γ (.region id ops.toArray true) s (RunK P Γ Q kt) := by
  intro K a w hin hs
  refine wp_region_any hm ?_
  have hin0 : In Γ K { w with drawn := w.drawn + 1 } := ⟨hin.le, hin.none0, hin.memNew, hin.fresh, hin.os, hin.tape, hin.output, hin.size, hin.block⟩
  have hs0 : Sim K Γ.own s a { w with drawn := w.drawn + 1 } := ⟨⟨hs.sat.mem, fun i ob hi => by
      obtain ⟨h, h1, h2, h3⟩ := hs.sat.ob i ob hi
      exact ⟨h, h1, h2, h3.keep (.refl _) fun b e => rfl⟩, hs.sat.apart⟩, hs.defers, hs.size, hs.env, hs.hdr⟩
  generalize ({ w with drawn := w.drawn + 1 } : World) = w0 at hin0 hs0
  have key : ∀ (fuel : Nat) (listed : Array Bool) (K : Kr) (a : Act) (w : World), listed.size = ops.length → (listed.toList.filter (! ·)).length ≤ fuel →
      (∀ j y, ops[j]? = some y → listed.getD j false = true → ∀ p ∈ dirPred y, listed.getD p false = true) → In Γ K w → Sim K Γ.own (stW ops T W s M fun j => listed.getD j false) a w →
      (∀ j x, j < ops.length → listed.getD j false = false → cr j = some x → K.hdr x = none) → (∀ p, kd p = 1 → p < ops.length → listed.getD p false = false) →
      wpAny P .any ops.toArray (VPost Γ (RunK P Γ Q kt)) fuel listed a w := by
    have allDone : ∀ (listed : Array Bool) (K : Kr) (a : Act) (w : World), (∀ p, kd p = 1 → p < ops.length → listed.getD p false = false) → (∀ j, j < ops.length → listed.getD j false = true) → In Γ K w → Sim K Γ.own (stW ops T W s M fun j => listed.getD j false) a w →
        ∃ K' s', In Γ K' w ∧ Sim K' Γ.own s' a w ∧ RunK P Γ Q kt .normal s' := fun listed K a w hsp hall hin hs => by
      obtain ⟨s', he, hfin⟩ := hfin fun i hi hk => by have h1 := hsp i hk hi; rw [hall i hi] at h1; cases h1
      refine ⟨K, _, hin, Sim.eqo (hs.eqo ?_) he, hfin⟩
      refine ⟨rfl, fun x => ?_, rfl, fun x => ?_⟩
      · simp only [stW, getK_applyW]
        rw [wlog_congr W _ (fun _ => true) x ops.length fun j hj _ => hall j hj]
      · exact envF_congr T _ _ x ops 0 s.env s.env rfl fun j o hj _ => by
          have hl := (List.getElem?_eq_some_iff.1 hj).1
          simp only [Nat.zero_add]
          exact hall j hl
    have least : ∀ (listed : Array Bool), listed.size = ops.length → ∀ i, i < ops.length → listed.getD i false = false → ∃ i0, i0 ∈ Region.ready .any ops.toArray listed := fun listed hsz i hi hu => by
      induction i using Nat.strongRecOn with
      | _ i ih =>
        have ho : ops[i]? = some ops[i] := List.getElem?_eq_getElem hi
        by_cases hp : ∀ p ∈ dirPred ops[i], listed.getD p false = true
        · refine ⟨i, mem_ready.2 ⟨?_, ops[i], by simp, fun e he hb => hp e.on ?_⟩⟩
          · have hi' : i < listed.size := by omega
            simp [hi'] at hu ⊢
            exact hu
          · simp only [dirPred, List.mem_map, List.mem_filter]
            exact ⟨e, ⟨by simpa using he, hb⟩, rfl⟩
        · simp only [Classical.not_forall] at hp
          obtain ⟨p, hpm, hpu⟩ := hp
          have hlt := (ord_pred hord ho).1 p hpm
          exact ih p hlt (by omega) (by simpa using hpu)
    intro fuel
    induction fuel with
    | zero =>
      intro listed K a w hsz hcnt hcl hin hs _ hsp
      have hall : ∀ j, j < ops.length → listed.getD j false = true := fun j hj => by
        have hj' : j < listed.size := by omega
        have h0 : (listed.toList.filter (! ·)) = [] := List.eq_nil_of_length_eq_zero (by omega)
        have := (List.filter_eq_nil_iff.1 h0) listed[j] (by simp)
        simp only [Bool.not_eq_true', Bool.not_eq_false] at this
        simp [hj', this]
      refine ⟨?_, .inl (allDone listed K a w hsp hall hin hs)⟩
      refine List.eq_nil_iff_forall_not_mem.2 fun i hi => ?_
      obtain ⟨h1, o, ho, _⟩ := mem_ready.1 hi
      have hl : i < ops.length := by
        have := (Array.getElem?_eq_some_iff.1 ho).1
        simpa using this
      have := hall i hl
      have hi' : i < listed.size := by omega
      simp [hi'] at h1 this
      rw [h1] at this
      cases this
    | succ fuel ih =>
      intro listed K a w hsz hcnt hcl hin hs hfr hsp
      refine ⟨fun hnil => .inl (allDone listed K a w hsp (fun j hj => ?_) hin hs), fun i hi => ?_⟩
      · cases hu : listed.getD j false with
        | true => rfl
        | false =>
          obtain ⟨i0, h0⟩ := least listed hsz j hj hu
          rw [hnil] at h0
          cases h0
      · obtain ⟨hun, o, ho, hall⟩ := mem_ready.1 hi
        have ho' : ops[i]? = some o := by simpa using ho
        have hil := (List.getElem?_eq_some_iff.1 ho').1
        have hil' : i < listed.size := by omega
        have hunf : listed.getD i false = false := by simp [hil'] at hun ⊢; exact hun
        have hpred : ∀ p ∈ dirPred o, listed.getD p false = true := fun p hp => by
          simp only [dirPred, List.mem_map, List.mem_filter] at hp
          obtain ⟨e, ⟨he, hb⟩, rfl⟩ := hp
          exact hall e (by simpa using he) hb
        obtain ⟨hpo, hv⟩ := hval i o ho'
        have bef1 : ∀ j, befB ops ops.length j i = true → listed.getD j false = true := fun j hb => bef_closed hcl _ j i o ho' hpred hb
        have bef2 : ∀ j x, ops[j]? = some x → befB ops ops.length i j = true → listed.getD j false = false := fun j x hj hb => by
          cases hu : listed.getD j false with
          | false => rfl
          | true =>
            have := bef_closed hcl _ i j x hj (hcl j x hj hu) hb
            rw [hunf] at this
            cases this
        -- who writes a slot that this operation looks at, or writes
        have before : ∀ j x, ops[j]? = some x → j < i → meets ops.toArray x o = true ∨ meets ops.toArray o x = true → listed.getD j false = true := fun j x hj hlt hmm =>
          bef1 j ((ord_pred hord ho').2.2 j x hlt hj hmm)
        have behind : ∀ j x, ops[j]? = some x → i < j → meets ops.toArray x o = true ∨ meets ops.toArray o x = true → listed.getD j false = false := fun j x hj hlt hmm =>
          bef2 j x hj ((ord_pred hord hj).2.2 i o hlt ho' hmm.symm)
        have agree : ∀ t, t ∈ o.looksAt ops.toArray → getK (envF T (fun j => listed.getD j false) ops 0 s.env) t = getK (envF T (fun j => decide (j < i)) ops 0 s.env) t := fun t ht => by
          refine envF_congr T _ _ t ops 0 s.env s.env rfl fun j x hj hx => ?_
          simp only [Nat.zero_add]
          have hmm : meets ops.toArray x o = true := by simp [meets, hx, ht]
          rcases Nat.lt_trichotomy j i with h | h | h
          · rw [before j x hj h (.inl hmm)]; simp [h]
          · subst h; rw [hunf]; simp
          · rw [behind j x hj h (.inl hmm)]; simp; omega
        have hopd : ∀ x ∈ o.op.operands, opd (stW ops T W s M fun j => decide (j < i)) x = opd (stW ops T W s M fun j => listed.getD j false) x := fun x hx => by
          cases x with
          | tmp t =>
            simp only [opd, St.at, stW]
            rw [agree t (List.mem_append_left _ (List.mem_filterMap.2 ⟨.tmp t, by simpa using hx, rfl⟩))]
          | _ => rfl
        -- who changes an object that this operation looks at
        have hloc : ∀ y ∈ R i, getK (stW ops T W s M fun j => decide (j < i)).obs y = getK (stW ops T W s M fun j => listed.getD j false).obs y := fun y hy => by
          simp only [stW, getK_applyW]
          rw [wlog_congr W (fun j => decide (j < i)) (fun j => listed.getD j false) y ops.length fun j hj hk => ?_]
          rcases Nat.lt_trichotomy j i with h | h | h
          · have hb : befB ops ops.length j i = true := by
              cases hb : befB ops ops.length j i with
              | true => rfl
              | false => exact absurd hy (((hpair j i h hil hb).1 y hk).1)
            rw [bef1 j hb]
            simp [h]
          · subst h; rw [hunf]; simp
          · have hb : befB ops ops.length i j = true := by
              cases hb : befB ops ops.length i j with
              | true => rfl
              | false => exact absurd hy ((hpair i j h hj hb).2 y hk)
            rw [bef2 j _ (List.getElem?_eq_getElem hj) hb]
            simp; omega
        have hlast : ∀ y ∈ keys (W i), ∀ j, j < ops.length → i < j → y ∈ keys (W j) → listed.getD j false = false := fun y hy j hj hlt hk => by
          have hb : befB ops ops.length i j = true := by
            cases hb : befB ops ops.length i j with
            | true => rfl
            | false => exact absurd hk ((hpair i j hlt hj hb).1 y hy).2
          exact bef2 j _ (List.getElem?_eq_getElem hj) hb
        have hS : (fun j => (listed.setIfInBounds i true).getD j false) = fun j => listed.getD j false || j == i := funext fun j => by
          by_cases hji : j = i
          · subst hji; simp [hil']
          · simp [Array.getElem?_setIfInBounds_ne (Ne.symm hji), hji]
        -- the slots behind this operation
        have henv : ∀ (x : Nat), o.dst = some x → getK (envF T (fun j => listed.getD j false || j == i) ops 0 s.env) x = some (T i) := fun x hdx =>
          envF_put T _ i x ops 0 s.env i o ho' (by omega) hdx fun j o' hj hlt hd' => by
            rw [Nat.zero_add]
            exact behind j o' hj hlt (.inl (by simp [meets, hd', hdx]))
        have henv' : ∀ (x : Nat), o.dst ≠ some x → getK (envF T (fun j => listed.getD j false || j == i) ops 0 s.env) x = getK (envF T (fun j => listed.getD j false) ops 0 s.env) x := fun x hdx =>
          envF_congr T _ (fun j => listed.getD j false) x ops 0 s.env s.env rfl fun j o' hj hd' => by
            simp only [Nat.zero_add]
            have : j ≠ i := fun e => by subst e; rw [ho'] at hj; cases hj; exact hdx hd'
            simp [this]
        -- an operation after one that panics is never ready
        by_cases hk2 : kd i = 2
        · rw [if_pos hk2] at hv
          obtain ⟨p, hp1, hp2, hp3⟩ := hv
          have := bef1 p hp3
          rw [hsp p hp1 hp2] at this
          cases this
        rw [if_neg hk2] at hv
        by_cases hk1 : kd i = 1
        · rw [if_pos hk1] at hv
          obtain ⟨hg, hst⟩ := hv
          unfold wpOp
          rw [ho]
          simp only [Region.wanted, hg, if_true]
          refine .inl (hst (stW ops T W s M fun j => listed.getD j false) rfl (fun y => ?_) (fun x hx => (hopd x hx).symm) (Nat.le_refl _) o rfl hg hpo K a w hin hs _ _ (fun _ _ _ _ _ _ h => h.elim) fun ch K' a' w' s' h1 h2 h3 => .inl ⟨K', s', h1, h2, h3⟩)
          simp only [stW, getK_applyW]
          rw [wlog_congr W (fun j => listed.getD j false) (fun j => decide (j < i)) y ops.length fun j hj hk => ?_]
          have hne : W j ≠ [] := fun e => by rw [e] at hk; cases hk
          rcases hstop i j hk1 hj hne with hb | hb
          · have h1 := bef1 j hb
            have hji : j < i := by
              rcases Nat.lt_trichotomy j i with h | h | h
              · exact h
              · subst h; rw [hunf] at h1; cases h1
              · have := befB_lt hord ho' hb; omega
            rw [h1]; simp [hji]
          · have h1 := bef2 j _ (List.getElem?_eq_getElem hj) hb
            have hji : ¬ j < i := by have := befB_lt hord (List.getElem?_eq_getElem hj) hb; omega
            rw [h1]; simp [hji]
        rw [if_neg hk1] at hv
        have go : ∀ K' a' w', In Γ K' w' → Sim K' Γ.own (stW ops T W s M fun j => listed.getD j false || j == i) a' w' →
            (∀ j x, j < ops.length → (listed.getD j false || j == i) = false → cr j = some x → K'.hdr x = none) →
            wpAny P .any ops.toArray (VPost Γ (RunK P Γ Q kt)) fuel (listed.setIfInBounds i true) a' w' := fun K' a' w' h1 h2 h3 => by
          have hS' : ∀ j, (listed.setIfInBounds i true).getD j false = (listed.getD j false || j == i) := fun j => congrFun hS j
          refine ih (listed.setIfInBounds i true) K' a' w' (by simp [hsz]) ?_ (fun j y hj hSj p hp => ?_) h1 (by rw [hS]; exact h2) (fun j x hj hu => h3 j x hj (by rw [← hS']; exact hu)) (fun p hp1 hp2 => by
            rw [hS', hsp p hp1 hp2]
            have : p ≠ i := fun e => hk1 (e ▸ hp1)
            simp [this])
          · have cnt : ∀ (l : List Bool) (n : Nat), l[n]? = some false → ((l.set n true).filter (! ·)).length + 1 = (l.filter (! ·)).length := by
              intro l
              induction l with
              | nil => intro n h; simp at h
              | cons b l ih =>
                intro n h
                cases n with
                | zero => simp at h; subst h; simp
                | succ n =>
                  have := ih n (by simpa using h)
                  cases b <;> simp at this ⊢ <;> omega
            have := cnt listed.toList i (by
              rw [Array.getElem?_toList, Array.getElem?_eq_getElem hil']
              simp [hil'] at hunf
              rw [hunf])
            rw [Array.toList_setIfInBounds]
            omega
          · rw [hS'] at hSj ⊢
            simp only [Bool.or_eq_true, beq_iff_eq] at hSj ⊢
            rcases hSj with hSj | rfl
            · exact .inl (hcl j y hj hSj p hp)
            · rw [ho'] at hj
              cases hj
              exact .inl (hpred p hp)
        -- an operation that changes nothing
        have next : W i = [] → ∀ K' v w', In Γ K' w' → K.le K' → K'.hdr = K.hdr → Sat K' Γ.own (stW ops T W s M fun j => listed.getD j false).obs w' → Rep K' (T i) v →
            wpAny P .any ops.toArray (VPost Γ (RunK P Γ Q kt)) fuel (listed.setIfInBounds i true) (a.put o.dst v) w' := fun hW K' v w' h1 h2 h3 h4 h5 => by
          refine go K' _ w' h1 ?_ fun j x hj hu hc => by
            rw [h3]
            simp only [Bool.or_eq_false_iff] at hu
            exact hfr j x hj hu.1 hc
          have hdef : (a.put o.dst v).defers = Γ.own.dfr := by cases o.dst <;> exact hs.defers
          have hsize : (a.put o.dst v).tmps.size = s.n := by
            have hsz2 : a.tmps.size = s.n := hs.size
            cases o.dst <;> simp [Act.put, hsz2]
          refine ⟨h4.eqo fun y => ?_, hdef, hsize, fun x d hx => ?_, fun j hj => by rw [h3]; exact hs.hdr j hj⟩
          · simp only [stW, getK_applyW]
            rw [wlog_congr W (fun j => listed.getD j false) (fun j => listed.getD j false || j == i) y ops.length fun j hj hk => ?_]
            by_cases hji : j = i
            · subst hji; rw [hW] at hk; cases hk
            · simp [hji]
          · simp only [stW] at hx
            by_cases hdx : o.dst = some x
            · rw [henv x hdx] at hx
              cases hx
              have hlt : x < s.n := by rw [hdx] at hpo; exact hpo
              refine ⟨hlt, ?_⟩
              have hsz' : a.tmps.size = s.n := hs.size
              rw [hdx]
              simpa [Act.put, hsz', hlt] using h5
            · rw [henv' x hdx] at hx
              obtain ⟨g1, g2⟩ := hs.env x d hx
              refine ⟨g1, ?_⟩
              have e : (a.put o.dst v).tmps.getD x undef = a.tmps.getD x undef := by
                cases hd : o.dst with
                | none => rfl
                | some y =>
                  have hne : y ≠ x := fun e => hdx (by rw [hd, e])
                  simp [Act.put, Array.getElem?_setIfInBounds_ne hne]
              rw [e]
              exact g2.mono h2
        unfold wpOp
        rw [ho]
        simp only
        have two : (Region.wanted o (yielded ops.toArray a.tmps) = true ∧ Op1X P s.next (stW ops T W s M fun j => decide (j < i)) o.op o.dst (T i) (W i) (cr i) (R i)) ∨ (Region.wanted o (yielded ops.toArray a.tmps) = false ∧ T i = .un ∧ W i = []) := by
          unfold OpGX at hv
          split at hv
          · rename_i hg
            exact .inl ⟨by simp [Region.wanted, hg], hv⟩
          · rename_i j want hg
            obtain ⟨t, ht, hv⟩ := hv
            have lift : ∀ dd, getK (stW ops T W s M fun j => decide (j < i)).env t = some dd → getK (stW ops T W s M fun j => listed.getD j false).env t = some dd := fun dd hb => by
              simp only [stW] at hb ⊢
              rw [agree t (by
                refine List.mem_append_right _ ?_
                unfold guardTmp at ht
                simp only [hg]
                rw [ht]
                simp)]
              exact hb
            rcases hv with ⟨b, hb, hv⟩ | ⟨hb, hv⟩
            · have hb' := lift _ hb
              obtain ⟨hlt, hr⟩ := hs.getK hb'
              have hbv := rep_bool hr
              have hyd : yielded ops.toArray a.tmps j = some b := by
                unfold yielded
                unfold guardTmp at ht
                rw [ht]
                simp only [Option.bind_some]
                have : a.tmps[t]? = some (.bool b) := by
                  rw [Array.getElem?_eq_getElem hlt]
                  simp [hlt] at hbv
                  rw [hbv]
                rw [this]
              by_cases hbw : b = want
              · rw [if_pos hbw] at hv
                exact .inl ⟨by simp [Region.wanted, hg, hyd, hbw], hv⟩
              · rw [if_neg hbw] at hv
                exact .inr ⟨by simp [Region.wanted, hg, hyd, hbw], hv.1, hv.2.1⟩
            · have hb' := lift _ hb
              obtain ⟨hlt, hr⟩ := hs.getK hb'
              have hbv := rep_oth hr
              have hyd : yielded ops.toArray a.tmps j = none := by
                unfold yielded
                unfold guardTmp at ht
                rw [ht]
                simp only [Option.bind_some]
                have : a.tmps[t]? = some undef := by
                  rw [Array.getElem?_eq_getElem hlt]
                  simp [hlt] at hbv
                  rw [hbv]
                rw [this]
                rfl
              exact .inr ⟨by simp [Region.wanted, hg, hyd], hv.1, hv.2.1⟩
        rcases two with ⟨hw, hv⟩ | ⟨hw, hv⟩
        · rw [if_pos hw]
          let un : Nat → Prop := fun y => ∃ j, j < ops.length ∧ (listed.getD j false || j == i) = false ∧ cr j = some y
          let ρ : Nat → Nat := fun y => open Classical in if cr i = some y then M else if un y then M + 1 + y else y
          have hknown : ∀ y h, K.hdr y = some h → ρ y = y ∧ y < M := fun y h hy => by
            have h1 : cr i ≠ some y := fun e => by rw [hfr i y hil hunf e] at hy; cases hy
            have h2 : ¬ un y := fun ⟨j, hj, hu, hc⟩ => by
              simp only [Bool.or_eq_false_iff] at hu
              rw [hfr j y hj hu.1 hc] at hy
              cases hy
            refine ⟨by simp only [ρ]; rw [if_neg h1, if_neg h2], ?_⟩
            rcases Nat.lt_or_ge y M with h | h
            · exact h
            · rw [hs.hdr y h] at hy; cases hy
          have hobs : ∀ y ob, getK (stW ops T W s M fun j => listed.getD j false).obs y = some ob → (ρ y = y ∧ y < M) ∧ ob.all (Good ρ M) := fun y ob hy => by
            have hok := hs.sat.ob y ob hy
            obtain ⟨h, h1, _⟩ := hok
            exact ⟨hknown y h h1, (hs.sat.ob y ob hy).good hknown⟩
          have hρs0 : ∀ y, y < s.next → ρ y = y := fun y hy => by
            have c1 : cr i ≠ some y := fun e => by have := (hcr i y e).1; omega
            have c2 : ¬ un y := fun ⟨j, _, _, hc⟩ => by have := (hcr j y hc).1; omega
            simp only [ρ]
            rw [if_neg c1, if_neg c2]
          have mk : ∀ e' : ERes, (∀ p ∈ e'.U, ∀ ob, p.2 = some ob → ob.all (Good ρ M) ∧ ∃ o, getK (stW ops T W s M fun j => listed.getD j false).obs p.1 = some o) → (∀ ob, e'.nw = some ob → ob.all (Good ρ M)) →
              (match e'.nw with | none => o.dst = none ∧ W i = e'.U ∧ cr i = none | some ob => ∃ x, cr i = some x ∧ W i = (x, some ob) :: e'.U ∧ T i = mkD e'.how x) →
              ∀ K' a' w', In Γ K' w' → Sim K' Γ.own ((stW ops T W s M fun j => listed.getD j false).effS e' o.dst) a' w' → wpAny P .any ops.toArray (VPost Γ (RunK P Γ Q kt)) fuel (listed.setIfInBounds i true) a' w' := by
            intro e' hgU hgN hcase K' a' w' h1 h2
            have hle : St.Le Γ.n0 ρ ((stW ops T W s M fun j => listed.getD j false).effS e' o.dst) (stW ops T W s M fun j => listed.getD j false || j == i) := by
              have hWi : ∀ y, y ∈ keys (W i) → getK (wlog W (fun j => listed.getD j false || j == i) ops.length) y = getK (W i) y := fun y hy =>
                wlog_put W _ i y hy ops.length hil fun j hj hlt hk => hlast y hy j hj hlt hk
              have hWn : ∀ y, y ∉ keys (W i) → getK (wlog W (fun j => listed.getD j false || j == i) ops.length) y = getK (wlog W (fun j => listed.getD j false) ops.length) y := fun y hy =>
                wlog_congr W _ _ y ops.length fun j hj hk => by
                  by_cases hji : j = i
                  · subst hji; exact absurd hk hy
                  · simp [hji]
              have hinj : ∀ y1 y2, y1 < M → y2 < M → ρ y1 = ρ y2 → y1 = y2 := fun y1 y2 g1 g2 hr => by
                simp only [ρ] at hr
                by_cases c1 : cr i = some y1 <;> by_cases c2 : cr i = some y2
                · rw [c1] at c2; cases c2; rfl
                · rw [if_pos c1, if_neg c2] at hr
                  split at hr <;> omega
                · rw [if_neg c1, if_pos c2] at hr
                  split at hr <;> omega
                · rw [if_neg c1, if_neg c2] at hr
                  split at hr <;> split at hr <;> omega
              have hobs2 : ∀ y ob', getK (stW ops T W s M fun j => listed.getD j false || j == i).obs y = some ob' → y < M ∧
                  ∃ ob, getK ((stW ops T W s M fun j => listed.getD j false).effS e' o.dst).obs (ρ y) = some ob ∧ Ob.le ρ ob ob' ∧ ob'.under M = true := fun y ob' hy => by
                simp only [stW, getK_applyW] at hy
                cases hn : e'.nw with
                | none =>
                  rw [hn] at hcase
                  obtain ⟨hd0, hWU, hcn⟩ := hcase
                  have hob : ∀ z, getK ((stW ops T W s M fun j => listed.getD j false).effS e' o.dst).obs z = match getK (W i) z with | some x => x | none => getK (stW ops T W s M fun j => listed.getD j false).obs z := fun z => by
                    simp only [St.effS, hn, getK_applyW, hWU]
                    rfl
                  by_cases hk : y ∈ keys (W i)
                  · rw [hWi y hk] at hy
                    obtain ⟨x, hx⟩ := getK_isKey (W i) y hk
                    rw [hx] at hy
                    simp only at hy
                    subst hy
                    have hmem : (y, some ob') ∈ e'.U := by
                      rw [← hWU]
                      have : ∀ (l : Wr), getK l y = some (some ob') → (y, some ob') ∈ l := by
                        intro l
                        induction l with
                        | nil => intro h; cases h
                        | cons p l ih =>
                          obtain ⟨k', d'⟩ := p
                          intro h
                          rw [getK_cons] at h
                          by_cases hyk : y = k'
                          · rw [if_pos hyk] at h; cases h; subst hyk; simp
                          · rw [if_neg hyk] at h; exact List.mem_cons_of_mem _ (ih h)
                      exact this _ hx
                    obtain ⟨hga, o0, ho0⟩ := hgU _ hmem ob' rfl
                    obtain ⟨⟨hr, hlt⟩, _⟩ := hobs y o0 ho0
                    refine ⟨hlt, ob', ?_, (Ob.all_le hga).1, (Ob.all_le hga).2⟩
                    rw [hr, hob, hx]
                  · rw [hWn y hk] at hy
                    obtain ⟨⟨hr, hlt⟩, hga⟩ := hobs y ob' (by simp only [stW, getK_applyW]; exact hy)
                    refine ⟨hlt, ob', ?_, (Ob.all_le hga).1, (Ob.all_le hga).2⟩
                    rw [hr, hob, getK_keys (W i) y hk]
                    simp only [stW, getK_applyW]
                    exact hy
                | some nb =>
                  rw [hn] at hcase
                  obtain ⟨x0, hcx, hWU, hTi⟩ := hcase
                  have hx0 := hcr i x0 hcx
                  have hob : ∀ z, z ≠ M → getK ((stW ops T W s M fun j => listed.getD j false).effS e' o.dst).obs z = match getK e'.U z with | some x => x | none => getK (stW ops T W s M fun j => listed.getD j false).obs z := fun z hz => by
                    have : ∀ (q : St) (d : D), (q.put o.dst d).obs = q.obs := fun q d => by cases o.dst <;> rfl
                    simp only [St.effS, hn, this, getK_cons]
                    rw [if_neg (by simpa [stW] using hz), getK_applyW]
                    rfl
                  have hobM : getK ((stW ops T W s M fun j => listed.getD j false).effS e' o.dst).obs M = some nb := by
                    have : ∀ (q : St) (d : D), (q.put o.dst d).obs = q.obs := fun q d => by cases o.dst <;> rfl
                    simp only [St.effS, hn, this, getK_cons]
                    rw [if_pos (by simp [stW])]
                  by_cases hyx : y = x0
                  · subst hyx
                    have hk : y ∈ keys (W i) := by rw [hWU]; simp [keys]
                    rw [hWi y hk, hWU, getK_cons, if_pos rfl] at hy
                    simp only at hy
                    cases hy
                    have hga := hgN ob' hn
                    refine ⟨hx0.2, ob', ?_, (Ob.all_le hga).1, (Ob.all_le hga).2⟩
                    simp only [ρ]
                    rw [if_pos hcx]
                    exact hobM
                  · by_cases hk : y ∈ keys (W i)
                    · rw [hWi y hk, hWU, getK_cons, if_neg hyx] at hy
                      have hk' : y ∈ e'.U.map (·.1) := by
                        rw [hWU] at hk
                        simp only [keys, List.map_cons, List.mem_cons] at hk
                        exact hk.resolve_left hyx
                      obtain ⟨x, hx⟩ := getK_isKey e'.U y hk'
                      rw [hx] at hy
                      simp only at hy
                      subst hy
                      have hmem : (y, some ob') ∈ e'.U := by
                        have : ∀ (l : Wr), getK l y = some (some ob') → (y, some ob') ∈ l := by
                          intro l
                          induction l with
                          | nil => intro h; cases h
                          | cons p l ih =>
                            obtain ⟨k', d'⟩ := p
                            intro h
                            rw [getK_cons] at h
                            by_cases hyk : y = k'
                            · rw [if_pos hyk] at h; cases h; subst hyk; simp
                            · rw [if_neg hyk] at h; exact List.mem_cons_of_mem _ (ih h)
                        exact this _ hx
                      obtain ⟨hga, o0, ho0⟩ := hgU _ hmem ob' rfl
                      obtain ⟨⟨hr, hlt⟩, _⟩ := hobs y o0 ho0
                      refine ⟨hlt, ob', ?_, (Ob.all_le hga).1, (Ob.all_le hga).2⟩
                      rw [hr, hob y (by omega), hx]
                    · rw [hWn y hk] at hy
                      obtain ⟨⟨hr, hlt⟩, hga⟩ := hobs y ob' (by simp only [stW, getK_applyW]; exact hy)
                      refine ⟨hlt, ob', ?_, (Ob.all_le hga).1, (Ob.all_le hga).2⟩
                      have hk' : y ∉ e'.U.map (·.1) := by
                        rw [hWU] at hk
                        simp only [keys, List.map_cons, List.mem_cons, not_or] at hk
                        exact hk.2
                      rw [hr, hob y (by omega), getK_keys e'.U y hk']
                      simp only [stW, getK_applyW]
                      exact hy
              have henv2 : ∀ x d', getK (stW ops T W s M fun j => listed.getD j false || j == i).env x = some d' →
                  (D.le ρ (((stW ops T W s M fun j => listed.getD j false).effS e' o.dst).at x) d' ∧ d'.under M = true) ∧ x < s.n := fun x d' hx => by
                simp only [stW] at hx
                by_cases hdx : o.dst = some x
                · rw [henv x hdx] at hx
                  cases hx
                  have hlt : x < s.n := by rw [hdx] at hpo; exact hpo
                  cases hn : e'.nw with
                  | none =>
                    rw [hn] at hcase
                    rw [hcase.1] at hdx
                    cases hdx
                  | some nb =>
                    rw [hn] at hcase
                    obtain ⟨x0, hcx, hWU, hTi⟩ := hcase
                    have hx0 := hcr i x0 hcx
                    have hρ : ρ x0 = M := by simp only [ρ]; rw [if_pos hcx]
                    refine ⟨⟨.inr (.inl ?_), ?_⟩, hlt⟩
                    · rw [hTi]
                      simp only [St.effS, hn, hdx, St.put, St.at, getK_cons, if_true, Option.getD_some]
                      cases e'.how <;> simp [mkD, D.ren, hρ, stW]
                    · rw [hTi]
                      cases e'.how <;> simp [mkD, D.under, hx0.2]
                · rw [henv' x hdx] at hx
                  obtain ⟨g1, g2⟩ := hs.env x d' hx
                  have hgd := g2.good hknown
                  have hat : ((stW ops T W s M fun j => listed.getD j false).effS e' o.dst).at x = d' := by
                    have : ∀ (q : St) (d : D), getK (q.put o.dst d).env x = getK q.env x := fun q d => by
                      cases hd : o.dst with
                      | none => rfl
                      | some y =>
                        have hne : ¬ x = y := fun e => hdx (by rw [hd, e])
                        simp only [St.put, getK_cons, if_neg hne]
                    simp only [St.at, St.effS]
                    cases hn : e'.nw with
                    | none => simp only [stW, hx]; rfl
                    | some nb => simp only [this, stW, hx]; rfl
                  rw [hat]
                  exact ⟨⟨.inr (.inl hgd.1.symm), hgd.2⟩, g1⟩
              refine ⟨?_, fun x d' hx => (henv2 x d' hx).1, fun x d' hx => ?_, hobs2, fun y1 y2 o1 o2 g1 g2 hr => hinj y1 y2 (hobs2 y1 o1 g1).1 (hobs2 y2 o2 g2).1 hr, fun j hj => ?_⟩
              · have : ∀ (q : St) (d : D), (q.put o.dst d).n = q.n := fun q d => by cases o.dst <;> rfl
                simp only [St.effS]
                cases e'.nw <;> simp only [this] <;> rfl
              · have : ∀ (q : St) (d : D), (q.put o.dst d).n = q.n := fun q d => by cases o.dst <;> rfl
                have e2 : ((stW ops T W s M fun j => listed.getD j false).effS e' o.dst).n = s.n := by
                  simp only [St.effS]
                  cases e'.nw <;> simp only [this] <;> rfl
                rw [e2]
                exact (henv2 x d' hx).2
              · have c1 : cr i ≠ some j := fun e => by have := (hcr i j e).1; omega
                have c2 : ¬ un j := fun ⟨q, _, _, hc⟩ => by have := (hcr q j hc).1; omega
                refine ⟨by simp only [ρ]; rw [if_neg c1, if_neg c2], ?_⟩
                show j < M
                omega
            obtain ⟨g1, g2⟩ := Sim.weak h1 h2 hle
            refine go _ a' w' g1 g2 fun j x hj hu hc => ?_
            simp only [Kr.ren]
            split
            · have c1 : cr i ≠ some x := fun e => by
                have := hcr1 i j x e hc
                subst this
                simp at hu
              have c2 : un x := ⟨j, hj, hu, hc⟩
              simp only [ρ]
              rw [if_neg c1, if_pos c2]
              refine h2.hdr _ ?_
              have : ∀ (q : St) (d : D), (q.put o.dst d).next = q.next := fun q d => by cases o.dst <;> rfl
              simp only [St.effS]
              cases e'.nw <;> simp only [this, stW] <;> omega
            · rfl
          rcases hv with (⟨hv, hW, hcn, hR⟩ | ⟨e, he, hR, hcase⟩) | ⟨⟨fop, args, f, caps, O, O', L, hco, hcf, hcb, hR, hW, hkeys, hsm, hO, hnd, ⟨hdu, hOu⟩, hret⟩, hcn⟩ | ⟨fop, args, f, caps, O, e, nb, x0, hco, hcf, hcb, hR, ⟨heU, heN, hnu⟩, hcx, hO, hret⟩
          · replace hv := valD_loc (s := stW ops T W s M fun j => decide (j < i)) (s' := stW ops T W s M fun j => listed.getD j false) (by rw [← hR]; exact hloc) hopd hv
            exact .inl (valD_run hv hin hs fun K' v w' h1 h2 h3 h4 h5 => next hW K' v w' h1 h2 h3 h4 h5)
          · -- an operation that changes or makes an object
            replace he := effD_loc (s := stW ops T W s M fun j => decide (j < i)) (s' := stW ops T W s M fun j => listed.getD j false) (by rw [← hR]; exact hloc) hopd he
            have hgood := effD_all (g := Good ρ M) (fun _ => ⟨by simp [D.ren], by simp [D.under]⟩) (fun cs h => h.agg) he (fun x hx => (opd_rep hs x).good hknown) (fun y ob hy => (hobs y ob hy).2)
            obtain ⟨e', he', ⟨rfl, hgU, hgN⟩⟩ := Lin.effD.2 _ hgood
            have he2 : effD P (stW ops T W s M fun j => listed.getD j false) o.op fun e => putOK o.dst (stW ops T W s M fun j => listed.getD j false) ∧ (e.nw = none → o.dst = none) ∧
                ((stW ops T W s M fun j => listed.getD j false).effS e o.dst) = (stW ops T W s M fun j => listed.getD j false).effS e' o.dst :=
              Lin.effD.1 _ _ (fun e hee => by
                subst hee
                refine ⟨hpo, fun hn => ?_, rfl⟩
                rw [hn] at hcase
                exact hcase.1) he
            refine .inl (hstep_effG (k := fun s' => s' = (stW ops T W s M fun j => listed.getD j false).effS e' o.dst) (effD_hstep he2) K a w hin hs _ _ (fun K' a' w' s' h1 h2 h3 => ?_) fun ch K' a' w' s' h1 h2 h3 => .inl ⟨K', s', h1, h2, h3⟩)
            have h3' : s' = _ := h3
            subst h3'
            exact mk e' hgU hgN hcase K' a' w' h1 h2
          · -- a call that changes what it is handed
            let un : Nat → Prop := fun y => ∃ j, j < ops.length ∧ (listed.getD j false || j == i) = false ∧ cr j = some y
            let ρ : Nat → Nat := fun y => open Classical in if un y then M + 1 + y else y
            have hρs : ∀ y, y < s.next → ρ y = y := fun y hy => by
              have : ¬ un y := fun ⟨j, _, _, hc⟩ => by have := (hcr j y hc).1; omega
              simp only [ρ]; rw [if_neg this]
            have hknown : ∀ y h, K.hdr y = some h → ρ y = y ∧ y < M := fun y h hy => by
              have h2 : ¬ un y := fun ⟨j, hj, hu, hc⟩ => by
                simp only [Bool.or_eq_false_iff] at hu
                rw [hfr j y hj hu.1 hc] at hy
                cases hy
              refine ⟨by simp only [ρ]; rw [if_neg h2], ?_⟩
              rcases Nat.lt_or_ge y M with h | h
              · exact h
              · rw [hs.hdr y h] at hy; cases hy
            have hobs : ∀ y ob, getK (stW ops T W s M fun j => listed.getD j false).obs y = some ob → (ρ y = y ∧ y < M) ∧ ob.all (Good ρ M) := fun y ob hy => by
              have hok := hs.sat.ob y ob hy
              obtain ⟨h, h1, _⟩ := hok
              exact ⟨hknown y h h1, (hs.sat.ob y ob hy).good hknown⟩
            have hOact : ∀ p ∈ O, getK (stW ops T W s M fun j => listed.getD j false).obs p.1 = some p.2 := fun p hp => by
              rw [← hloc p.1 (by rw [hR]; exact List.mem_map.2 ⟨p, hp, rfl⟩)]
              exact hO p hp
            have hOget : ∀ y ob, getK O y = some ob → getK (stW ops T W s M fun j => listed.getD j false).obs y = some ob := fun y ob h => hOact _ (getK_memK h)
            let F := (stW ops T W s M fun j => listed.getD j false).obs.filter fun p => !(O.map (·.1)).contains p.1
            have hFg : ∀ y, getK F y = if (O.map (·.1)).contains y = true then none else getK (stW ops T W s M fun j => listed.getD j false).obs y := fun y => getK_filterN _ _ y
            have hOn : ∀ y, ¬ (O.map (·.1)).contains y = true → getK O y = none := fun y h => getK_keys O y (by simpa using h)
            have heq : ∀ y, getK (stW ops T W s M fun j => listed.getD j false).obs y = getK (F ++ O) y := fun y => by
              rw [getK_append, hFg]
              by_cases hy : (O.map (·.1)).contains y = true
              · rw [if_pos hy]
                obtain ⟨x, hx⟩ := getK_isSome (l := O) (y := y) (by simpa using hy)
                rw [hx, hOget y x hx]
              · rw [if_neg hy, hOn y hy]
                cases getK (stW ops T W s M fun j => listed.getD j false).obs y <;> rfl
            have hF : ∀ y ob, getK F y = some ob → getK O y = none := fun y ob h => by
              rw [hFg] at h
              by_cases hy : (O.map (·.1)).contains y = true
              · rw [if_pos hy] at h; cases h
              · exact hOn y hy
            have hopdS : ∀ x, x ∈ fop :: args → opd (stW ops T W s M fun j => listed.getD j false) x = opd (stW ops T W s M fun j => decide (j < i)) x := fun x hx => (hopd x (by
              rcases o with ⟨odst, oop, ot, opos, oaf, og⟩
              unfold callOf at hco
              split at hco
              · rename_i c hop
                simp only at hop
                subst hop
                split at hco
                · cases hco
                  rename_i f' hcal
                  simp only [Op.operands, Call.operands, hcal]
                  simp only [List.mem_cons] at hx
                  simp
                  rcases hx with rfl | hx
                  · exact .inl rfl
                  · exact .inr (by simpa using hx)
                · cases hco
              · cases hco)).symm
            have hcall : CallP P Γ fop args o.dst (stW ops T W s M fun j => listed.getD j false) fun s' => ∃ o1, (∀ y, getK o1 y = getK O' y) ∧ s' = (({ (stW ops T W s M fun j => listed.getD j false) with obs := F ++ o1, next := M } : St).put o.dst (T i)) :=
              CallP.xF F O (hret M (Nat.le_refl _)) heq hF (by rw [hopdS fop (by simp)]; exact hcf) hcb (by rw [List.map_congr_left fun x hx => hopdS x (by simp [hx])]) hpo
                (fun d o1 nx' _ ⟨h1, h2, h3⟩ => ⟨o1, h2, by cases h1; rw [h3]⟩) (fun ch o1 nx' _ ⟨h1, _⟩ => by cases h1)
            have heff : EffP P Γ o (stW ops T W s M fun j => listed.getD j false) fun s' => ∃ o1, (∀ y, getK o1 y = getK O' y) ∧ s' = (({ (stW ops T W s M fun j => listed.getD j false) with obs := F ++ o1, next := M } : St).put o.dst (T i)) := by
              have e := hcall
              rcases o with ⟨odst, oop, ot, opos, oaf, og⟩
              unfold callOf at hco
              split at hco
              · rename_i c hop
                simp only at hop
                subst hop
                split at hco
                · cases hco
                  rename_i f' hcal
                  obtain ⟨cal, cargs, cts⟩ := c
                  simp only at hcal
                  subst hcal
                  exact EffP.guard (e cts ot opos oaf)
                · cases hco
              · cases hco
            refine .inl (heff K a w hin hs _ _ (fun K' a' w' s' h1 h2 h3 => ?_) fun ch K' a' w' s' h1 h2 h3 => .inl ⟨K', s', h1, h2, h3⟩)
            obtain ⟨o1, ho1, rfl⟩ := h3
            have hWi : ∀ y, y ∈ keys (W i) → getK (wlog W (fun j => listed.getD j false || j == i) ops.length) y = getK (W i) y := fun y hy =>
              wlog_put W _ i y hy ops.length hil fun j hj hlt hk => hlast y hy j hj hlt hk
            have hWn : ∀ y, y ∉ keys (W i) → getK (wlog W (fun j => listed.getD j false || j == i) ops.length) y = getK (wlog W (fun j => listed.getD j false) ops.length) y := fun y hy =>
              wlog_congr W _ _ y ops.length fun j hj hk => by
                by_cases hji : j = i
                · subst hji; exact absurd hk hy
                · simp [hji]
            have hWg : ∀ y, getK (W i) y = if L.contains y = true then (getK O' y).map some else none := fun y => by
              rw [hW, getK_some_map, getK_filterK]
              split <;> rfl
            have hkW : ∀ y, y ∈ keys (W i) ↔ L.contains y = true ∧ y ∈ O.map (·.1) := fun y => by
              rw [hW, ← hkeys]
              simp only [keys, List.map_map, List.mem_map, List.mem_filter, Function.comp]
              exact ⟨fun ⟨p, ⟨h1, h2⟩, h3⟩ => ⟨h3 ▸ h2, p, h1, h3⟩, fun ⟨h1, p, h2, h3⟩ => ⟨p, ⟨h2, by rw [h3]; exact h1⟩, h3⟩⟩
            have pobs : ∀ (q : St) (d : D), (q.put o.dst d).obs = q.obs := fun q d => by cases o.dst <;> rfl
            have pn : ∀ (q : St) (d : D), (q.put o.dst d).n = q.n := fun q d => by cases o.dst <;> rfl
            have pnext : ∀ (q : St) (d : D), (q.put o.dst d).next = q.next := fun q d => by cases o.dst <;> rfl
            have hobs2 : ∀ y ob', getK (stW ops T W s M fun j => listed.getD j false || j == i).obs y = some ob' → y < M ∧
                ∃ ob, getK (({ (stW ops T W s M fun j => listed.getD j false) with obs := F ++ o1, next := M } : St).put o.dst (T i)).obs (ρ y) = some ob ∧ Ob.le ρ ob ob' ∧ ob'.under M = true := fun y ob' hy => by
              rw [pobs]
              simp only [stW, getK_applyW] at hy
              by_cases hk : y ∈ keys (W i)
              · rw [hWi y hk, hWg, if_pos ((hkW y).1 hk).1] at hy
                have hyO : y ∈ O.map (·.1) := ((hkW y).1 hk).2
                obtain ⟨x0, hx0⟩ := getK_isSome (l := O) (y := y) hyO
                obtain ⟨⟨hr, hlt⟩, _⟩ := hobs y x0 (hOget y x0 hx0)
                cases hq : getK O' y with
                | none =>
                  obtain ⟨x1, hx1⟩ := getK_isSome (l := O') (y := y) (by rw [hkeys]; exact hyO)
                  rw [hx1] at hq
                  cases hq
                | some ob =>
                  rw [hq] at hy
                  have hy : ob = ob' := by simpa using hy
                  subst hy
                  have hga := ob_good_under (M := M) hρs hM (hOu _ (getK_memK hq))
                  refine ⟨hlt, ob, ?_, (Ob.all_le hga).1, (Ob.all_le hga).2⟩
                  rw [hr, getK_append, hFg, if_pos (by simpa using hyO), ho1 y, hq]
              · rw [hWn y hk] at hy
                obtain ⟨⟨hr, hlt⟩, hga⟩ := hobs y ob' (by simp only [stW, getK_applyW]; exact hy)
                refine ⟨hlt, ob', ?_, (Ob.all_le hga).1, (Ob.all_le hga).2⟩
                by_cases hyO : (O.map (·.1)).contains y = true
                · have hL : L.contains y = false := by
                    cases hL : L.contains y with
                    | false => rfl
                    | true => exact absurd ((hkW y).2 ⟨hL, by simpa using hyO⟩) hk
                  obtain ⟨x0, hx0⟩ := getK_isSome (l := O) (y := y) (by simpa using hyO)
                  have hx1 := hOget y x0 hx0
                  simp only [stW, getK_applyW] at hx1
                  rw [hy] at hx1
                  rw [hr, getK_append, hFg, if_pos hyO, ho1 y, hsm y hL, hx0]
                  exact hx1.symm
                · rw [hr, getK_append, hFg, if_neg hyO]
                  simp only [stW, getK_applyW]
                  rw [hy]
            have henv2 : ∀ x d', getK (stW ops T W s M fun j => listed.getD j false || j == i).env x = some d' →
                (D.le ρ ((({ (stW ops T W s M fun j => listed.getD j false) with obs := F ++ o1, next := M } : St).put o.dst (T i)).at x) d' ∧ d'.under M = true) ∧ x < s.n := fun x d' hx => by
              simp only [stW] at hx
              by_cases hdx : o.dst = some x
              · rw [henv x hdx] at hx
                cases hx
                have hlt : x < s.n := by rw [hdx] at hpo; exact hpo
                have hg := good_under (M := M) hρs hM hdu
                refine ⟨⟨.inr (.inl ?_), hg.2⟩, hlt⟩
                simp only [hdx, St.put, St.at, getK_cons, if_true, Option.getD_some]
                exact hg.1.symm
              · rw [henv' x hdx] at hx
                obtain ⟨g1, g2⟩ := hs.env x d' hx
                have hgd := g2.good hknown
                have hat : (({ (stW ops T W s M fun j => listed.getD j false) with obs := F ++ o1, next := M } : St).put o.dst (T i)).at x = d' := by
                  have : ∀ (q : St) (d : D), getK (q.put o.dst d).env x = getK q.env x := fun q d => by
                    cases hd : o.dst with
                    | none => rfl
                    | some y =>
                      have hne : ¬ x = y := fun e => hdx (by rw [hd, e])
                      simp only [St.put, getK_cons, if_neg hne]
                  simp only [St.at, this, stW, hx]
                  rfl
                rw [hat]
                exact ⟨⟨.inr (.inl hgd.1.symm), hgd.2⟩, g1⟩
            have hinj : ∀ y1 y2, y1 < M → y2 < M → ρ y1 = ρ y2 → y1 = y2 := fun y1 y2 g1 g2 hr => by
              simp only [ρ] at hr
              split at hr <;> split at hr <;> omega
            have hle : St.Le Γ.n0 ρ (({ (stW ops T W s M fun j => listed.getD j false) with obs := F ++ o1, next := M } : St).put o.dst (T i)) (stW ops T W s M fun j => listed.getD j false || j == i) := by
              refine ⟨by rw [pn]; rfl, fun x d' hx => (henv2 x d' hx).1, fun x d' hx => by rw [pn]; exact (henv2 x d' hx).2, hobs2, fun y1 y2 o1 o2 g1 g2 hr => hinj y1 y2 (hobs2 y1 o1 g1).1 (hobs2 y2 o2 g2).1 hr, fun j hj => ⟨hρs j (by omega), ?_⟩⟩
              show j < M
              omega
            obtain ⟨g1, g2⟩ := Sim.weak h1 h2 hle
            refine go _ a' w' g1 g2 fun j x hj hu hc => ?_
            simp only [Kr.ren]
            split
            · have c2 : un x := ⟨j, hj, hu, hc⟩
              simp only [ρ]
              rw [if_pos c2]
              refine h2.hdr _ ?_
              rw [pnext]
              show M ≤ M + 1 + x
              omega
            · rfl
          · -- a call that makes one object
            have hOact : ∀ p ∈ O, getK (stW ops T W s M fun j => listed.getD j false).obs p.1 = some p.2 := fun p hp => by
              rw [← hloc p.1 (by rw [hR]; exact List.mem_map.2 ⟨p, hp, rfl⟩)]
              exact hO p hp
            have hOget : ∀ y ob, getK O y = some ob → getK (stW ops T W s M fun j => listed.getD j false).obs y = some ob := fun y ob h => hOact _ (getK_memK h)
            let F := (stW ops T W s M fun j => listed.getD j false).obs.filter fun p => !(O.map (·.1)).contains p.1
            have hFg : ∀ y, getK F y = if (O.map (·.1)).contains y = true then none else getK (stW ops T W s M fun j => listed.getD j false).obs y := fun y => getK_filterN _ _ y
            have hOn : ∀ y, ¬ (O.map (·.1)).contains y = true → getK O y = none := fun y h => getK_keys O y (by simpa using h)
            have heq : ∀ y, getK (stW ops T W s M fun j => listed.getD j false).obs y = getK (F ++ O) y := fun y => by
              rw [getK_append, hFg]
              by_cases hy : (O.map (·.1)).contains y = true
              · rw [if_pos hy]
                obtain ⟨x, hx⟩ := getK_isSome (l := O) (y := y) (by simpa using hy)
                rw [hx, hOget y x hx]
              · rw [if_neg hy, hOn y hy]
                cases getK (stW ops T W s M fun j => listed.getD j false).obs y <;> rfl
            have hF : ∀ y ob, getK F y = some ob → getK O y = none := fun y ob h => by
              rw [hFg] at h
              by_cases hy : (O.map (·.1)).contains y = true
              · rw [if_pos hy] at h; cases h
              · exact hOn y hy
            have hopdS : ∀ x, x ∈ fop :: args → opd (stW ops T W s M fun j => listed.getD j false) x = opd (stW ops T W s M fun j => decide (j < i)) x := fun x hx => (hopd x (by
              rcases o with ⟨odst, oop, ot, opos, oaf, og⟩
              unfold callOf at hco
              split at hco
              · rename_i c hop
                simp only at hop
                subst hop
                split at hco
                · cases hco
                  rename_i f' hcal
                  simp only [Op.operands, Call.operands, hcal]
                  simp only [List.mem_cons] at hx
                  simp
                  rcases hx with rfl | hx
                  · exact .inl rfl
                  · exact .inr (by simpa using hx)
                · cases hco
              · cases hco)).symm
            have hMn : getK (stW ops T W s M fun j => listed.getD j false).obs M = none := by
              cases hq : getK (stW ops T W s M fun j => listed.getD j false).obs M with
              | none => rfl
              | some ob =>
                obtain ⟨h, h1, _⟩ := hs.sat.ob M ob hq
                rw [hs.hdr M (Nat.le_refl _)] at h1
                cases h1
            have hcall : CallP P Γ fop args o.dst (stW ops T W s M fun j => listed.getD j false) fun s' => ∃ o1, (∀ y, getK o1 y = getK ((M, nb) :: O) y) ∧ s' = (({ (stW ops T W s M fun j => listed.getD j false) with obs := F ++ o1, next := M + 1 } : St).put o.dst (mkD e.how M)) :=
              CallP.xF F O (hret M (by first | exact Nat.le_refl _ | exact hM)) heq hF (by rw [hopdS fop (by simp)]; exact hcf) hcb (by rw [List.map_congr_left fun x hx => hopdS x (by simp [hx])]) hpo
                (fun d o1 nx' _ ⟨h1, h2, h3⟩ => ⟨o1, h2, by cases h1; rw [h3]⟩) (fun ch o1 nx' _ ⟨h1, _⟩ => by cases h1)
            have heff : EffP P Γ o (stW ops T W s M fun j => listed.getD j false) fun s' => ∃ o1, (∀ y, getK o1 y = getK ((M, nb) :: O) y) ∧ s' = (({ (stW ops T W s M fun j => listed.getD j false) with obs := F ++ o1, next := M + 1 } : St).put o.dst (mkD e.how M)) := by
              have e := hcall
              rcases o with ⟨odst, oop, ot, opos, oaf, og⟩
              unfold callOf at hco
              split at hco
              · rename_i c hop
                simp only at hop
                subst hop
                split at hco
                · cases hco
                  rename_i f' hcal
                  obtain ⟨cal, cargs, cts⟩ := c
                  simp only at hcal
                  subst hcal
                  exact EffP.guard (e cts ot opos oaf)
                · cases hco
              · cases hco
            refine .inl (heff K a w hin hs _ _ (fun K' a' w' s' h1 h2 h3 => ?_) fun ch K' a' w' s' h1 h2 h3 => .inl ⟨K', s', h1, h2, h3⟩)
            obtain ⟨o1, ho1, rfl⟩ := h3
            refine mk e (by rw [heU]; simp) (fun ob h => by rw [heN] at h; cases h; exact ob_good_under hρs0 hM hnu) (by rw [heN]; exact ⟨x0, hcx⟩) K' a' w' h1 (h2.eqo ?_)
            have pobs : ∀ (q : St) (d : D), (q.put o.dst d).obs = q.obs := fun q d => by cases o.dst <;> rfl
            have pn : ∀ (q : St) (d : D), (q.put o.dst d).n = q.n := fun q d => by cases o.dst <;> rfl
            have pnext : ∀ (q : St) (d : D), (q.put o.dst d).next = q.next := fun q d => by cases o.dst <;> rfl
            have penv : ∀ (q q' : St) (d : D) (x : Nat), q.env = q'.env → getK (q.put o.dst d).env x = getK (q'.put o.dst d).env x := fun q q' d x e => by cases o.dst <;> simp [St.put, e]
            simp only [St.effS, heN]
            refine ⟨by rw [pn, pn], fun y => ?_, by rw [pnext, pnext]; rfl, fun x => penv _ _ _ x rfl⟩
            rw [pobs, pobs]
            simp only [heU]
            rw [getK_append, ho1, getK_cons, getK_cons]
            show _ = if y = M then some nb else getK (applyW [] (stW ops T W s M fun j => listed.getD j false).obs) y
            have hap : applyW [] (stW ops T W s M fun j => listed.getD j false).obs = (stW ops T W s M fun j => listed.getD j false).obs := rfl
            rw [hap]
            by_cases hy : y = M
            · subst hy
              have hFM : getK F y = none := by rw [hFg, hMn]; split <;> rfl
              rw [hFM]
              simp
            · rw [if_neg hy, if_neg hy, heq y, getK_append]
        · rw [if_neg (by rw [hw]; simp)]
          exact next hv.2 K undef w hin (.refl _) rfl hs.sat (by rw [hv.1]; exact .u _ _ (.oth _))
  have h0 : (fun j => (Array.replicate ops.toArray.size false).getD j false) = fun _ => false := funext fun j => by
    by_cases hj : j < ops.length <;> simp [hj]
  refine key _ _ K a w0 (by simp) (by simp) (fun j y hj hS => ?_) hin0 ?_ (fun j x _ _ hc => hs.hdr x (hcr j x hc).1) (fun p _ _ => congrFun h0 p)
  · have : (Array.replicate ops.toArray.size false).getD j false = false := congrFun h0 j
    rw [this] at hS
    cases hS
  · rw [h0]
    have none : ∀ (l : List Oper) (i : Nat) (e : List (Nat × D)), envF T (fun _ => false) l i e = e := by
      intro l
      induction l with
      | nil => intro i e; rfl
      | cons o l ih => intro i e; simp [envF, ih]
    have wn : ∀ m, wlog W (fun _ => false) m = [] := by
      intro m
      induction m with
      | zero => rfl
      | succ m ih => simp [wlog, ih]
    refine ⟨hs0.sat.eqo fun y => ?_, hs0.defers, hs0.size, fun x d hx => hs0.env x d ?_, fun y hy => hs0.hdr y (Nat.le_trans hM hy)⟩
    · simp only [stW, wn]; rfl
    · simp only [stW, none] at hx; exact hx

-- the table of one evaluation, step by step
abbrev Ent4 := Ent × Nat
abbrev Fp4 := List (List Nat × List Nat × Nat)
def eE (E : Nat → Ent4) (j : Nat) : Ent := (E j).1
def tF4 (E : Nat → Ent4) (n : Nat) : Fp4 := (List.range n).map fun j => (tR (eE E) j, keys (tW (eE E) j), (E j).2)
def Op2X (P : Program) (N : Nat) (s : St) (o : O1) (e : Ent) : Prop :=
  match o.guard with
  | none => Op1X P N s o.op o.dst e.1 e.2.1 e.2.2.1 e.2.2.2
  | some (t, want) => (∃ b, getK s.env t = some (.u (.bool b)) ∧ if b = want then Op1X P N s o.op o.dst e.1 e.2.1 e.2.2.1 e.2.2.2 else e.1 = .un ∧ e.2.1 = [] ∧ e.2.2.1 = none) ∨
    (getK s.env t = some .un ∧ e.1 = .un ∧ e.2.1 = [] ∧ e.2.2.1 = none)
def Op4 (P : Program) (Γ : Ctx) (N : Nat) (s : St) (o : O1) (e : Ent4) : Prop :=
  if e.2 = 2 then e.1.2.1 = [] ∧ e.1.2.2.1 = none else if e.2 = 1 then o.guard = none ∧ StopE P Γ s o.op ∧ e.1.2.1 = [] ∧ e.1.2.2.1 = none else e.2 = 0 ∧ Op2X P N s o e.1
def chain4 (P : Program) (Γ : Ctx) (N : Nat) : List O1 → St → Fp4 → (St → Fp4 → Prop) → Prop
  | [], s, fp, k => k s fp
  | o :: rest, s, fp, k => ∃ e : Ent4, putOK o.dst s ∧ Op4 P Γ N s o e ∧ (∀ x, e.1.2.2.1 = some x → x = s.next) ∧ chain4 P Γ N rest (s.app o.dst e.1) (fp ++ [(e.1.2.2.2, keys e.1.2.1, e.2)]) k
def HD4 (P : Program) (Γ : Ctx) (N : Nat) (l : List O1) (s : St) (fp : Fp4) (C : Fp4 → Prop) (k : St → Prop) : Prop :=
  ∀ s0 : St, s0.Eqo s → chain4 P Γ N l s0 fp fun s1 fp => C fp ∧ ((∀ p ∈ fp, p.2.2 ≠ 1) → ∃ s', s1.Eqo s' ∧ k s')
/-- The head of a list of operations goes through. -/
def HD4h (P : Program) (Γ : Ctx) (N : Nat) (o : O1) (rest : List O1) (s : St) (fp : Fp4) (C : Fp4 → Prop) (k : St → Prop) : Prop :=
  ∀ s0 : St, s0.Eqo s → ∃ e : Ent4, putOK o.dst s0 ∧ Op4 P Γ N s0 o e ∧ e.2 ≠ 1 ∧ (∀ x, e.1.2.2.1 = some x → x = s0.next) ∧ chain4 P Γ N rest (s0.app o.dst e.1) (fp ++ [(e.1.2.2.2, keys e.1.2.1, e.2)]) fun s1 fp => C fp ∧ ((∀ p ∈ fp, p.2.2 ≠ 1) → ∃ s', s1.Eqo s' ∧ k s')
theorem HD4.of_h {P Γ N o rest s fp C k} (h : HD4h P Γ N o rest s fp C k) : HD4 P Γ N (o :: rest) s fp C k := fun s0 e => by
  obtain ⟨en, h1, h2, _, h3, h4⟩ := h s0 e
  exact ⟨en, h1, h2, h3, h4⟩
theorem HD4_nil {P Γ N s fp C k} (hC : C fp) (h : k s) : HD4 P Γ N [] s fp C k := fun s0 e => ⟨hC, fun _ => ⟨s, e, h⟩⟩
theorem HD4_nilS {P Γ N s fp C k} (hC : C fp) (h : (fp.any fun p => p.2.2 == 1) = true) : HD4 P Γ N [] s fp C k := fun s0 e => ⟨hC, fun h1 => by
  obtain ⟨p, hp, hk⟩ := List.any_eq_true.1 h
  exact absurd (by simpa using hk) (h1 p hp)⟩
theorem HD4h_val {P Γ N s dst op rest fp C k} (_ : isEffOp op = false) (h : valD P s op fun d => putOK dst s ∧ HD4 P Γ N rest (s.put dst d) (fp ++ [(rdIds s op, [], 0)]) C k) : HD4h P Γ N ⟨dst, op, none⟩ rest s fp C k := fun s0 e => by
  obtain ⟨d, hv, hp, hr⟩ := Lin.valD.2 _ h
  refine ⟨((d, [], none, rdIds s op), 0), by cases dst <;> simp_all [putOK, e.1], ?_, by simp, fun x hx => (by cases hx), hr _ (e.put dst d)⟩
  unfold Op4
  rw [if_neg (by simp), if_neg (by simp)]
  exact ⟨rfl, .inl (.inl ⟨by rw [valD_eqo e]; exact hv, rfl, rfl, (rdIds_eqo e op).symm⟩)⟩
theorem HD4h_chg {P Γ N s dst op rest fp C k} (_ : isEffOp op = true) (h : effD P s op fun e => putOK dst s ∧ (e.nw = none → dst = none) ∧
    HD4 P Γ N rest (s.effS e dst) (fp ++ [(rdIds s op, match e.nw with | none => (e.U.map (·.1), 0) | some _ => (s.next :: e.U.map (·.1), 0))]) C k) : HD4h P Γ N ⟨dst, op, none⟩ rest s fp C k := fun s0 e0 => by
  obtain ⟨e, hv, hp, hd, hr⟩ := Lin.effD.2 _ h
  have hp0 : putOK dst s0 := by cases dst <;> simp_all [putOK, e0.1]
  have hv0 : effD P s0 op (· = e) := by rw [effD_eqo e0]; exact hv
  cases hn : e.nw with
  | none =>
    obtain rfl := hd hn
    refine ⟨((.any, e.U, none, rdIds s op), 0), hp0, ?_, by simp, fun x hx => (by cases hx), ?_⟩
    · unfold Op4
      rw [if_neg (by simp), if_neg (by simp)]
      exact ⟨rfl, .inl (.inr ⟨e, hv0, (rdIds_eqo e0 op).symm, by rw [hn]; exact ⟨rfl, rfl, rfl⟩⟩)⟩
    rw [hn] at hr
    refine hr _ ?_
    simp only [St.app, St.effS, hn, St.put]
    exact ⟨e0.1, fun x => by simp only [getK_applyW, e0.2.1 x], e0.2.2.1, e0.2.2.2⟩
  | some ob =>
    refine ⟨((mkD e.how s0.next, (s0.next, some ob) :: e.U, some s0.next, rdIds s op), 0), hp0, ?_, by simp, fun x hx => (by cases hx; rfl), ?_⟩
    · unfold Op4
      rw [if_neg (by simp), if_neg (by simp)]
      exact ⟨rfl, .inl (.inr ⟨e, hv0, (rdIds_eqo e0 op).symm, by rw [hn]; exact ⟨s0.next, rfl, rfl, rfl⟩⟩)⟩
    rw [hn] at hr
    have h1 := hr (s0.app dst (mkD e.how s0.next, (s0.next, some ob) :: e.U, some s0.next, rdIds s op)) (by
      simp only [St.app, St.effS, hn, e0.2.2.1]
      apply St.Eqo.put
      refine ⟨e0.1, fun x => ?_, by simp, e0.2.2.2⟩
      simp only [applyW, getK_setOb, getK_cons, getK_applyW, e0.2.1 x])
    simp only [keys, List.map_cons]
    rw [e0.2.2.1] at h1 ⊢
    exact h1
theorem HD4_val {P Γ N s dst op rest fp C k} (h0 : isEffOp op = false) (h : valD P s op fun d => putOK dst s ∧ HD4 P Γ N rest (s.put dst d) (fp ++ [(rdIds s op, [], 0)]) C k) : HD4 P Γ N (⟨dst, op, none⟩ :: rest) s fp C k := .of_h (HD4h_val h0 h)
theorem HD4_chg {P Γ N s dst op rest fp C k} (h0 : isEffOp op = true) (h : effD P s op fun e => putOK dst s ∧ (e.nw = none → dst = none) ∧
    HD4 P Γ N rest (s.effS e dst) (fp ++ [(rdIds s op, match e.nw with | none => (e.U.map (·.1), 0) | some _ => (s.next :: e.U.map (·.1), 0))]) C k) : HD4 P Γ N (⟨dst, op, none⟩ :: rest) s fp C k := .of_h (HD4h_chg h0 h)
theorem HD4_guard {P Γ N s dst op rest fp C k t want b} (hb : getK s.env t = some (.u (.bool b))) (hp : putOK dst s)
    (hy : b = want → HD4h P Γ N ⟨dst, op, none⟩ rest (s.put (some t) (.u (.bool want))) fp C k)
    (hn : b = !want → HD4 P Γ N rest ((s.put (some t) (.u (.bool (!want)))).put dst .un) (fp ++ [([], [], 0)]) C k) : HD4 P Γ N (⟨dst, op, some (t, want)⟩ :: rest) s fp C k := fun s0 e => by
  have lit : ∀ b', b = b' → s.Eqo (s.put (some t) (.u (.bool b'))) := fun b' e' => ⟨rfl, fun _ => rfl, rfl, fun x => by
    subst e'
    simp only [St.put, getK_cons]
    split
    · rename_i hx; rw [hx, hb]
    · rfl⟩
  have hp0 : putOK dst s0 := by cases dst <;> simp_all [putOK, e.1]
  by_cases hw : b = want
  · have e1 := e.trans (lit want hw)
    obtain ⟨en, h1, h2, h5, h3, h4⟩ := hy hw s0 e1
    refine ⟨en, h1, ?_, h3, h4⟩
    unfold Op4 at h2 ⊢
    by_cases h6 : en.2 = 2
    · rw [if_pos h6] at h2 ⊢
      exact h2
    · rw [if_neg h6, if_neg h5] at h2 ⊢
      exact ⟨h2.1, .inl ⟨b, by rw [e.2.2.2 t]; exact hb, by rw [if_pos hw]; exact h2.2⟩⟩
  · have hw' : b = !want := by cases b <;> cases want <;> simp_all
    have e1 := e.trans (lit _ hw')
    refine ⟨((.un, [], none, []), 0), hp0, ?_, fun x hx => (by cases hx), hn hw' _ (e1.put dst .un)⟩
    unfold Op4
    rw [if_neg (by simp), if_neg (by simp)]
    exact ⟨rfl, .inl ⟨b, by rw [e.2.2.2 t]; exact hb, by rw [if_neg hw]; exact ⟨rfl, rfl, rfl⟩⟩⟩
theorem HD4_guardU {P Γ N s dst op rest fp C k t want} (hb : getK s.env t = some .un) (hp : putOK dst s) (hn : HD4 P Γ N rest (s.put dst .un) (fp ++ [([], [], 0)]) C k) :
    HD4 P Γ N (⟨dst, op, some (t, want)⟩ :: rest) s fp C k := fun s0 e => by
  refine ⟨((.un, [], none, []), 0), by cases dst <;> simp_all [putOK, e.1], ?_, fun x hx => (by cases hx), hn _ (e.put dst .un)⟩
  unfold Op4
  rw [if_neg (by simp), if_neg (by simp)]
  exact ⟨rfl, .inr ⟨by rw [e.2.2.2 t]; exact hb, rfl, rfl, rfl⟩⟩
/-- An operation that is never reached, for one ahead of it panics. -/
theorem HD4_skip {P Γ N s dst op g rest fp C k} (hp : putOK dst s) (h : HD4 P Γ N rest (s.put dst .any) (fp ++ [([], [], 2)]) C k) : HD4 P Γ N (⟨dst, op, g⟩ :: rest) s fp C k := fun s0 e => by
  refine ⟨((.any, [], none, []), 2), by cases dst <;> simp_all [putOK, e.1], ?_, fun x hx => (by cases hx), h _ (e.put dst .any)⟩
  unfold Op4
  rw [if_pos rfl]
  exact ⟨rfl, rfl⟩
theorem applyW_getK (W : Wr) {o o' : List (Nat × Ob)} (h : ∀ y, getK o y = getK o' y) : ∀ y, getK (applyW W o) y = getK (applyW W o') y := fun y => by rw [getK_applyW, getK_applyW, h y]
/-- A call that changes some of the objects it is handed, and makes none. -/
theorem HD4_callL {P : Program} {Γ : Ctx} {N : Nat} {s : St} {dst : Option Tmp} {rest fp C k} {fop : Operand} {args : Array Operand} {ts : Array TypeId} {f caps} {ds : List D} {d : D} (O O' : List (Nat × Ob)) (L : List Nat)
    (hret : ∀ nx, s.next ≤ nx → RetX P f ds O nx fun r o n => r = .val d ∧ (∀ y, getK o y = getK O' y) ∧ n = nx)
    (hf : calleeOf (opd s fop) = some (f, caps)) (hc : callable P f = true) (hds : args.toList.map (opd s) ++ caps = ds) (hkeys : O'.map (·.1) = O.map (·.1)) (hsm : ∀ y, L.contains y = false → getK O' y = getK O y) (hO : ∀ p ∈ O, getK s.obs p.1 = some p.2) (hnd : (O.map (·.1)).Nodup)
    (hu : d.under N = true ∧ ∀ p ∈ O', p.2.under N = true) (hp : putOK dst s)
    (h : HD4 P Γ N rest (({ s with obs := applyW ((O'.filter fun p => L.contains p.1).map fun p => (p.1, some p.2)) s.obs } : St).put dst d) (fp ++ [(O.map (·.1), (O'.filter fun p => L.contains p.1).map (·.1), 0)]) C k) :
    HD4 P Γ N (⟨dst, .call { callee := .value fop, args, argTypes := ts }, none⟩ :: rest) s fp C k := fun s0 e => by
  refine ⟨((d, (O'.filter fun p => L.contains p.1).map (fun p => (p.1, some p.2)), none, O.map (·.1)), 0), by cases dst <;> simp_all [putOK, e.1], ?_, fun x hx => (by cases hx), ?_⟩
  · unfold Op4
    rw [if_neg (by simp), if_neg (by simp)]
    refine ⟨rfl, .inr (.inl ⟨⟨fop, args.toList, f, caps, O, O', L, rfl, by rw [opd_eqo e]; exact hf, hc, rfl, rfl, hkeys, hsm, fun p hp => by rw [e.2.1]; exact hO p hp, hnd, hu, fun nx hnx => ?_⟩, rfl⟩)⟩
    have e1 : args.toList.map (opd s0) = args.toList.map (opd s) := List.map_congr_left fun x _ => opd_eqo e x
    rw [e1, hds]
    exact hret nx (by rw [e.2.2.1] at hnx; exact hnx)
  · have := h (s0.app dst (d, (O'.filter fun p => L.contains p.1).map (fun p => (p.1, some p.2)), none, O.map (·.1))) (by
      simp only [St.app]
      apply St.Eqo.put
      exact ⟨e.1, applyW_getK _ e.2.1, by simpa using e.2.2.1, e.2.2.2⟩)
    simpa [keys, List.map_map, Function.comp_def] using this
/-- A call that makes one object, and changes nothing of what it is handed. -/
theorem HD4_callN {P : Program} {Γ : Ctx} {N : Nat} {s : St} {dst : Option Tmp} {rest fp C k} {fop : Operand} {args : Array Operand} {ts : Array TypeId} {f caps} {ds : List D} (O : List (Nat × Ob)) (r : ERes) (nb : Ob)
    (hret : ∀ nx, s.next ≤ nx → RetX P f ds O nx fun q o n => q = .val (mkD r.how nx) ∧ (∀ y, getK o y = getK ((nx, nb) :: O) y) ∧ n = nx + 1) (hr : r.U = [] ∧ r.nw = some nb)
    (hf : calleeOf (opd s fop) = some (f, caps)) (hc : callable P f = true) (hds : args.toList.map (opd s) ++ caps = ds) (hO : ∀ p ∈ O, getK s.obs p.1 = some p.2)
    (hu : nb.under N = true) (hp : putOK dst s)
    (h : HD4 P Γ N rest (({ s with obs := (s.next, nb) :: s.obs, next := s.next + 1 } : St).put dst (mkD r.how s.next)) (fp ++ [(O.map (·.1), [s.next], 0)]) C k) :
    HD4 P Γ N (⟨dst, .call { callee := .value fop, args, argTypes := ts }, none⟩ :: rest) s fp C k := fun s0 e => by
  refine ⟨((mkD r.how s0.next, (s0.next, some nb) :: r.U, some s0.next, O.map (·.1)), 0), by cases dst <;> simp_all [putOK, e.1], ?_, fun x hx => (by cases hx; rfl), ?_⟩
  · unfold Op4
    rw [if_neg (by simp), if_neg (by simp)]
    refine ⟨rfl, .inr (.inr ⟨fop, args.toList, f, caps, O, r, nb, s0.next, rfl, by rw [opd_eqo e]; exact hf, hc, rfl, ⟨hr.1, hr.2, hu⟩, ⟨rfl, rfl, rfl⟩, fun p hp => by rw [e.2.1]; exact hO p hp, fun nx hnx => ?_⟩)⟩
    have e1 : args.toList.map (opd s0) = args.toList.map (opd s) := List.map_congr_left fun x _ => opd_eqo e x
    rw [e1, hds]
    exact hret nx (by rw [e.2.2.1] at hnx; exact hnx)
  · have h1 := h (s0.app dst (mkD r.how s0.next, (s0.next, some nb) :: r.U, some s0.next, O.map (·.1))) (by
      simp only [St.app, hr.1, e.2.2.1]
      apply St.Eqo.put
      refine ⟨e.1, fun x => ?_, by simp, e.2.2.2⟩
      simp only [applyW, getK_setOb, getK_cons, getK_applyW, e.2.1 x])
    simp only [hr.1] at h1
    simp only [keys, List.map_cons, hr.1, List.map_nil]
    rw [e.2.2.1] at h1 ⊢
    exact h1
theorem filter_all {O O' : List (Nat × Ob)} (hkeys : O'.map (·.1) = O.map (·.1)) : (O'.filter fun p => (O.map (·.1)).contains p.1) = O' := by
  refine List.filter_eq_self.2 fun p hp => ?_
  rw [← hkeys]
  simp only [List.contains_eq_mem, decide_eq_true_eq]
  exact List.mem_map.2 ⟨p, hp, rfl⟩
/-- A call that changes the objects it is handed, and makes none. -/
theorem HD4_call {P : Program} {Γ : Ctx} {N : Nat} {s : St} {dst : Option Tmp} {rest fp C k} {fop : Operand} {args : Array Operand} {ts : Array TypeId} {f caps} {ds : List D} {d : D} (O O' : List (Nat × Ob))
    (hret : ∀ nx, s.next ≤ nx → RetX P f ds O nx fun r o n => r = .val d ∧ (∀ y, getK o y = getK O' y) ∧ n = nx)
    (hf : calleeOf (opd s fop) = some (f, caps)) (hc : callable P f = true) (hds : args.toList.map (opd s) ++ caps = ds) (hkeys : O'.map (·.1) = O.map (·.1)) (hO : ∀ p ∈ O, getK s.obs p.1 = some p.2) (hnd : (O.map (·.1)).Nodup)
    (hu : d.under N = true ∧ ∀ p ∈ O', p.2.under N = true) (hp : putOK dst s)
    (h : HD4 P Γ N rest (({ s with obs := applyW (O'.map fun p => (p.1, some p.2)) s.obs } : St).put dst d) (fp ++ [(O.map (·.1), O'.map (·.1), 0)]) C k) :
    HD4 P Γ N (⟨dst, .call { callee := .value fop, args, argTypes := ts }, none⟩ :: rest) s fp C k :=
  HD4_callL O O' (O.map (·.1)) hret hf hc hds hkeys (fun y hy => by
    rw [getK_keys O y (by simpa using hy), getK_keys O' y (by rw [hkeys]; simpa using hy)]) hO hnd hu hp (by rw [filter_all hkeys]; exact h)
/-- A call that panics: nothing behind it is reached. -/
theorem HD4_stop {P : Program} {Γ : Ctx} {N : Nat} {s : St} {dst : Option Tmp} {rest fp C k} {fop : Operand} {args : Array Operand} {ts : Array TypeId} {f caps} {ds : List D} {post : Out → List (Nat × Ob) → Nat → Prop} (O : List (Nat × Ob))
    (hret : ∀ nx, s.next ≤ nx → RetX P f ds O nx post) (hno : ∀ d o n, ¬ post (.val d) o n)
    (hf : calleeOf (opd s fop) = some (f, caps)) (hc : callable P f = true) (hds : args.toList.map (opd s) ++ caps = ds) (hO : ∀ p ∈ O, getK s.obs p.1 = some p.2) (hp : putOK dst s)
    (hx : ∀ env ch o n, s.next ≤ n → post (.pan ch) o n → ∃ s2, Wk Γ { n := s.n, env := env, obs := (s.obs.filter fun p => !(O.map (·.1)).contains p.1) ++ o, next := n } s2 ∧ Γ.pan ch s2)
    (h : HD4 P Γ N rest (s.put dst .any) (fp ++ [([], [], 1)]) C k) :
    HD4 P Γ N (⟨dst, .call { callee := .value fop, args, argTypes := ts }, none⟩ :: rest) s fp C k := fun s0 e => by
  refine ⟨((.any, [], none, []), 1), by cases dst <;> simp_all [putOK, e.1], ?_, fun x hx => (by cases hx), h _ (e.put dst .any)⟩
  unfold Op4
  rw [if_neg (by simp), if_pos rfl]
  refine ⟨rfl, fun s' hn ho hopd hnx o hop hg hpo => ?_, rfl, rfl⟩
  obtain ⟨odst, oop, ot, opos, oaf, og⟩ := o
  simp only at hop hg hpo
  subst hop
  subst hg
  have hopS : ∀ x ∈ fop :: args.toList, opd s' x = opd s x := fun x hx => by
    rw [hopd x (by
      simp only [Op.operands, Call.operands]
      simp only [List.mem_cons] at hx
      simp
      rcases hx with rfl | hx
      · exact .inl rfl
      · exact .inr (by simpa using hx)), opd_eqo e]
  have hOget : ∀ y, getK s'.obs y = getK s.obs y := fun y => by rw [ho, e.2.1]
  have hcall : CallP P Γ fop args.toList odst s' fun _ => False :=
    CallP.xF (s'.obs.filter fun p => !(O.map (·.1)).contains p.1) O (hret s'.next (by rw [← e.2.2.1]; exact hnx)) (fun y => by
      rw [getK_append, getK_filterN]
      by_cases hy : (O.map (·.1)).contains y = true
      · rw [if_pos hy]
        obtain ⟨x, hx⟩ := getK_isSome (l := O) (y := y) (by simpa using hy)
        rw [hx, hOget y, hO _ (getK_memK hx)]
      · rw [if_neg hy, getK_keys O y (by simpa using hy)]
        cases getK s'.obs y <;> rfl) (fun y ob hy => by
      rw [getK_filterN] at hy
      by_cases hc : (O.map (·.1)).contains y = true
      · rw [if_pos hc] at hy; cases hy
      · exact getK_keys O y (by simpa using hc)) (by rw [hopS fop (by simp)]; exact hf) hc (by rw [List.map_congr_left fun x hx => hopS x (by simp [hx])]; exact hds) hpo
      (fun d o1 nx' _ hp => absurd hp (hno d o1 nx')) (fun ch o1 nx' hn' hp => by
        obtain ⟨s2, h1, h2⟩ := hx s'.env ch o1 nx' (by have := e.2.2.1; omega) hp
        refine ⟨s2, fun K a w hin hs => h1 K a w hin (hs.eqo ⟨by simp [hn, e.1], fun y => ?_, rfl, fun _ => rfl⟩), h2⟩
        simp only [getK_append, getK_filterN, hOget])
  exact hcall ts ot opos oaf

theorem chain4_T {P : Program} {Γ : Ctx} {N : Nat} {all : Array Oper} {s0 : St} {ops : List Oper} {k : St → Fp4 → Prop} : ∀ (l : List O1) (tail : List Oper) (i : Nat) (E : Nat → Ent4), stripL all tail = some l → (∀ j, tail[j]? = ops[i + j]?) →
    chain4 P Γ N l (stE ops s0 (eE E) i) (tF4 E i) k → ∃ E' : Nat → Ent4, (∀ j, j < i → E' j = E j) ∧
      (∀ j o, i ≤ j → ops[j]? = some o → putOK o.dst s0 ∧ (if (E' j).2 = 2 then tW (eE E') j = [] ∧ tC (eE E') j = none else if (E' j).2 = 1 then o.guard = none ∧ StopE P Γ (stE ops s0 (eE E') j) o.op ∧ tW (eE E') j = [] ∧ tC (eE E') j = none else
        (E' j).2 = 0 ∧ OpGX P N all (stE ops s0 (eE E') j) o (tT (eE E') j) (tW (eE E') j) (tC (eE E') j) (tR (eE E') j)) ∧ ∀ x, tC (eE E') j = some x → x = s0.next + cnt (eE E') j) ∧
      k (stE ops s0 (eE E') (i + tail.length)) (tF4 E' (i + tail.length))
  | [], tail, i, E, hs, ht, h => by
    cases tail with
    | nil => exact ⟨E, fun _ _ => rfl, fun j o hj ho => by have := ht (j - i); rw [show i + (j - i) = j by omega, ho] at this; simp at this, by simpa [chain4] using h⟩
    | cons x l => simp only [stripL] at hs; split at hs <;> simp at hs
  | o1 :: l, tail, i, E, hs, ht, h => by
    obtain ⟨x, tl, rfl, hx, hr⟩ := stripL_cons hs
    obtain ⟨e, hp, hv, hnx, hc⟩ := h
    have hxi : ops[i]? = some x := by have := ht 0; simpa using this.symm
    have hdst : o1.dst = x.dst ∧ o1.op = x.op := by
      unfold strip at hx
      split at hx
      · simp at hx; subst hx; exact ⟨rfl, rfl⟩
      · split at hx
        · simp at hx; subst hx; exact ⟨rfl, rfl⟩
        · cases hx
    let E1 : Nat → Ent4 := fun j => if j = i then e else E j
    have h1 : ∀ j, j < i → E j = E1 j := fun j hj => by simp only [E1]; rw [if_neg (by omega)]
    have h1' : ∀ j, j < i → eE E j = eE E1 j := fun j hj => by simp only [eE, h1 j hj]
    have hi : E1 i = e := by simp [E1]
    have hi' : eE E1 i = e.1 := by simp only [eE, hi]
    have hstep : (stE ops s0 (eE E) i).app o1.dst e.1 = stE ops s0 (eE E1) (i + 1) := by
      rw [stE_congr h1', hdst.1]
      simp only [stE, St.app]
      rw [envF_step (tT (eE E1)) i ops 0 s0.env x (Nat.zero_le _) (by simpa using hxi)]
      have hw : wlog (tW (eE E1)) (fun _ => true) (i + 1) = e.1.2.1 ++ wlog (tW (eE E1)) (fun _ => true) i := by
        rw [wlog, if_pos rfl, show tW (eE E1) i = e.1.2.1 by simp only [tW, hi']]
      have hcn : cnt (eE E1) (i + 1) = cnt (eE E1) i + if e.1.2.2.1.isSome then 1 else 0 := by
        rw [cnt, show tC (eE E1) i = e.1.2.2.1 by simp only [tC, hi']]
      rw [hw, applyW_append, hcn]
      have hT : tT (eE E1) i = e.1.1 := by simp only [tT, hi']
      cases x.dst with
      | none => simp only [St.put, Nat.add_assoc]
      | some y => simp only [St.put, hT, Nat.add_assoc]
    have hfp : tF4 E i ++ [(e.1.2.2.2, keys e.1.2.1, e.2)] = tF4 E1 (i + 1) := by
      have hc1 : tF4 E i = tF4 E1 i := List.map_congr_left fun j hj => by
        have := h1 j (List.mem_range.1 hj)
        simp only [eE, tR, tW, this]
      rw [hc1]
      simp only [tF4, List.range_succ, List.map_append, List.map_cons, List.map_nil]
      rw [show tR (eE E1) i = e.1.2.2.2 by simp only [tR, hi'], show tW (eE E1) i = e.1.2.1 by simp only [tW, hi'], hi]
    rw [hstep, hfp] at hc
    obtain ⟨E', g1, g2, g3⟩ := chain4_T l tl (i + 1) E1 hr (fun j => by have := ht (j + 1); rw [show i + 1 + j = i + (j + 1) by omega, ← this]; simp) hc
    refine ⟨E', fun j hj => by rw [g1 j (by omega), h1 j hj], fun j o hj ho => ?_, ?_⟩
    · rcases Nat.lt_or_ge i j with h' | h'
      · exact g2 j o h' ho
      · obtain rfl : i = j := by omega
        rw [hxi] at ho
        cases ho
        have hEi : E' i = e := by rw [g1 i (by omega), hi]
        have hEi' : eE E' i = e.1 := by simp only [eE, hEi]
        have hst : stE ops s0 (eE E') i = stE ops s0 (eE E) i := stE_congr fun j hj => by simp only [eE]; rw [g1 j (by omega), ← h1 j hj]
        refine ⟨by rw [hdst.1] at hp; exact hp, ?_, fun y hy => ?_⟩
        · rw [hst]
          simp only [tT, tW, tC, tR, hEi, hEi']
          unfold Op4 at hv
          by_cases c2 : e.2 = 2
          · rw [if_pos c2] at hv ⊢
            exact hv
          · rw [if_neg c2] at hv ⊢
            by_cases c1 : e.2 = 1
            · rw [if_pos c1] at hv ⊢
              obtain ⟨v1, v2, v3⟩ := hv
              refine ⟨?_, by rw [← hdst.2]; exact v2, v3⟩
              unfold strip at hx
              split at hx
              · rename_i hg; exact hg
              · split at hx
                · simp at hx; subst hx; cases v1
                · cases hx
            · rw [if_neg c1] at hv ⊢
              obtain ⟨v0, hv⟩ := hv
              refine ⟨v0, ?_⟩
              unfold strip at hx
              unfold OpGX
              unfold Op2X at hv
              split at hx
              · rename_i hg
                simp at hx
                subst hx
                rw [hg]
                exact hv
              · rename_i q want hg
                split at hx
                · rename_i t ht'
                  simp at hx
                  subst hx
                  rw [hg]
                  exact ⟨t, ht', hv⟩
                · cases hx
        · have : tC (eE E') i = e.1.2.2.1 := by simp only [tC, hEi']
          rw [this] at hy
          have := hnx y hy
          rw [this, cnt_congr (eE E') (eE E) i fun j hj => by simp only [eE]; rw [g1 j (by omega), ← h1 j hj]]
          rfl
    · rw [show i + (x :: tl).length = i + 1 + tl.length by simp; omega]
      exact g3

def okP4 (ops : List Oper) (fp : Fp4) : Bool :=
  okP ops (fp.map fun p => (p.1, p.2.1)) &&
  (List.range ops.length).all fun j => ((fp.getD j ([], [], 0)).2.2 != 2 || (List.range ops.length).any fun p => (fp.getD p ([], [], 0)).2.2 == 1 && befB ops ops.length p j) &&
    ((fp.getD j ([], [], 0)).2.2 != 1 || (List.range ops.length).all fun i => (fp.getD i ([], [], 0)).2.1.isEmpty || befB ops ops.length i j || befB ops ops.length j i)
theorem V_drawX {P Γ s} {Q : Exit → St → Prop} {kt : Kt} {id : Nat} {l : List Oper} (hm : P.follows .mixedOrders = true) (hord : ordOK l = true) (hn0 : Γ.n0 ≤ s.next)
    (h : ∀ (C : Fp4 → Prop) (k : St → Prop), (∀ fp, okP4 l fp = true → C fp) → (∀ s', RunK P Γ Q kt .normal s' → k s') → match stripL l.toArray l with | some l' => HD4 P Γ s.next l' s [] C k | none => False) :
    V P Γ (.region id l.toArray true) s (RunK P Γ Q kt) := by
  have := h (fun fp => okP4 l fp = true) _ (fun _ h => h) fun _ h => h
  split at this
  · rename_i l' hl
    have h0 : stE l s (eE fun _ => default) 0 = s := by
      have hnone : ∀ (l : List Oper) (i : Nat) (e : List (Nat × D)), envF (tT (eE fun _ => default)) (fun j => decide (j < 0)) l i e = e := by
        intro l
        induction l with
        | nil => intro i e; rfl
        | cons o l ih => intro i e; exact ih (i + 1) e
      simp only [stE, hnone]
      rfl
    have hc := this s (.refl s)
    rw [← h0] at hc
    obtain ⟨E, _, h2, hok, hfin⟩ := chain4_T l' l 0 (fun _ => default) hl (fun j => by rw [Nat.zero_add]) hc
    rw [Nat.zero_add] at hok hfin
    simp only [okP4, Bool.and_eq_true] at hok
    obtain ⟨hok1, hok2⟩ := hok
    have hlen4 : ∀ i, i < l.length → (tF4 E l.length).getD i ([], [], 0) = (tR (eE E) i, keys (tW (eE E) i), (E i).2) := fun i hi => by
      simp [tF4, hi]
    have hlen : ∀ i, i < l.length → ((tF4 E l.length).map fun p => (p.1, p.2.1)).getD i ([], []) = (tR (eE E) i, keys (tW (eE E) i)) := fun i hi => by
      simp [tF4, hi]
    have mono : ∀ i j, i ≤ j → cnt (eE E) i ≤ cnt (eE E) j := fun i j hij => by
      induction hij with
      | refl => exact Nat.le_refl _
      | step _ ih => simp only [cnt]; omega
    have hcr : ∀ i x, i < l.length → tC (eE E) i = some x → x = s.next + cnt (eE E) i ∧ cnt (eE E) (i + 1) = cnt (eE E) i + 1 := fun i x hi hx => by
      have := (h2 i _ (Nat.zero_le _) (List.getElem?_eq_getElem hi)).2.2 x hx
      exact ⟨this, by simp only [cnt, hx]; rfl⟩
    let cr : Nat → Option Nat := fun i => if i < l.length then tC (eE E) i else none
    let kd : Nat → Nat := fun i => if i < l.length then (E i).2 else 0
    let W : Nat → Wr := fun i => if i < l.length then tW (eE E) i else []
    have hWe : ∀ i, i < l.length → W i = tW (eE E) i := fun i hi => by simp only [W]; rw [if_pos hi]
    refine V_draw4 (T := tT (eE E)) (W := W) (cr := cr) (R := tR (eE E)) (kd := kd) (M := s.next + cnt (eE E) l.length) hm hord hn0 (by omega) (fun i x hx => ?_) (fun i j x hi hj => ?_) (fun i j hij hj hb => ?_) (fun i hk => ?_) (fun p i hp hi hw => ?_) (fun i o ho => ?_) (fun hnk => ?_)
    · simp only [cr] at hx
      split at hx
      · rename_i hi
        obtain ⟨e1, e2⟩ := hcr i x hi hx
        have := mono (i + 1) l.length hi
        omega
      · cases hx
    · simp only [cr] at hi hj
      split at hi
      · rename_i hil
        split at hj
        · rename_i hjl
          obtain ⟨e1, e2⟩ := hcr i x hil hi
          obtain ⟨e3, e4⟩ := hcr j x hjl hj
          rcases Nat.lt_trichotomy i j with hlt | hlt | hlt
          · have := mono (i + 1) j hlt
            omega
          · exact hlt
          · have := mono (j + 1) i hlt
            omega
        · cases hj
      · cases hi
    · have := (List.all_eq_true.1 ((List.all_eq_true.1 hok1) j (List.mem_range.2 hj))) i (List.mem_range.2 hij)
      rw [hb, hlen i (by omega), hlen j hj] at this
      simp only [Bool.false_or, Bool.and_eq_true] at this
      rw [hWe i (by omega), hWe j hj]
      refine ⟨fun y hy => ?_, fun y hy => disjB_out this.2 y hy⟩
      have := disjB_out this.1 y hy
      rw [List.mem_append, not_or] at this
      exact this
    · simp only [kd] at hk
      split at hk
      · rename_i hi
        obtain ⟨_, g2, _⟩ := h2 i _ (Nat.zero_le _) (List.getElem?_eq_getElem hi)
        have hci : cr i = tC (eE E) i := by simp only [cr]; rw [if_pos hi]
        rw [hWe i hi, hci]
        by_cases c2 : (E i).2 = 2
        · rw [if_pos c2] at g2; exact g2
        · rw [if_neg c2] at g2
          by_cases c1 : (E i).2 = 1
          · rw [if_pos c1] at g2; exact g2.2.2
          · rw [if_neg c1] at g2; exact absurd g2.1 hk
      · exact absurd rfl hk
    · simp only [kd] at hp
      split at hp
      · rename_i hpl
        have := (List.all_eq_true.1 hok2) p (List.mem_range.2 hpl)
        rw [Bool.and_eq_true, hlen4 p hpl] at this
        have h3 := this.2
        simp only [hp] at h3
        have h4 : ((List.range l.length).all fun i => ((tF4 E l.length).getD i ([], [], 0)).2.1.isEmpty || befB l l.length i p || befB l l.length p i) = true := by simpa using h3
        have h5 := (List.all_eq_true.1 h4) i (List.mem_range.2 hi)
        rw [hlen4 i hi] at h5
        simp only [Bool.or_eq_true] at h5
        rcases h5 with (h5 | h5) | h5
        · exfalso
          apply hw
          rw [hWe i hi]
          have : keys (tW (eE E) i) = [] := by simpa using h5
          simpa [keys] using this
        · exact .inl h5
        · exact .inr h5
      · cases hp
    · have hi := (List.getElem?_eq_some_iff.1 ho).1
      obtain ⟨g1, g2, g3⟩ := h2 i o (Nat.zero_le _) ho
      refine ⟨g1, ?_⟩
      have hwl : ∀ S m, m ≤ l.length → wlog W S m = wlog (tW (eE E)) S m := fun S m hm => wlog_congrW W (tW (eE E)) S m fun j hj => hWe j (by omega)
      have hst : stW l (tT (eE E)) W s (s.next + cnt (eE E) l.length) (fun j => decide (j < i)) = { stE l s (eE E) i with next := s.next + cnt (eE E) l.length } := by
        simp only [stW, stE]
        rw [hwl _ _ (Nat.le_refl _), wlog_take (tW (eE E)) i l.length (by omega)]
      have hcri : cr i = tC (eE E) i := by simp only [cr]; rw [if_pos hi]
      have hkdi : kd i = (E i).2 := by simp only [kd]; rw [if_pos hi]
      rw [hst, hcri, hkdi, hWe i hi]
      have opo : ∀ x, opd { stE l s (eE E) i with next := s.next + cnt (eE E) l.length } x = opd (stE l s (eE E) i) x := fun x => by cases x <;> rfl
      have eqo : ∀ (op : Op) (r : D → Prop), valD P { stE l s (eE E) i with next := s.next + cnt (eE E) l.length } op r = valD P (stE l s (eE E) i) op r := fun op r => valD_congr rfl fun x _ => by cases x <;> rfl
      have ero : ∀ (op : Op), rdIds { stE l s (eE E) i with next := s.next + cnt (eE E) l.length } op = rdIds (stE l s (eE E) i) op := fun op => by
        have e : opd { stE l s (eE E) i with next := s.next + cnt (eE E) l.length } = opd (stE l s (eE E) i) := funext fun x => by cases x <;> rfl
        unfold rdIds lentIds argsV
        rw [e]
      have efo : ∀ (op : Op) (r : ERes → Prop), effD P { stE l s (eE E) i with next := s.next + cnt (eE E) l.length } op r = effD P (stE l s (eE E) i) op r := fun op r =>
        propext ⟨effD_loc (fun _ _ => rfl) fun x _ => by cases x <;> rfl, effD_loc (fun _ _ => rfl) fun x _ => by cases x <;> rfl⟩
      have hle : (stE l s (eE E) i).next ≤ s.next + cnt (eE E) l.length := by
        have := mono i l.length (by omega)
        simp only [stE]; omega
      have cao : ∀ (op : Op) (d : D) (W : Wr) (R : List Nat), CallE P s.next (stE l s (eE E) i) op d W R → CallE P s.next { stE l s (eE E) i with next := s.next + cnt (eE E) l.length } op d W R :=
        fun op d W R ⟨fop, args, f, caps, O, O', L, q1, q2, q3, q4, q5, q6, q6b, q7, q8, q9, q10⟩ => ⟨fop, args, f, caps, O, O', L, q1, by rw [opo]; exact q2, q3, q4, q5, q6, q6b, q7, q8, q9, fun nx hnx => by
          rw [List.map_congr_left fun x _ => opo x]
          exact q10 nx (Nat.le_trans hle hnx)⟩
      have c1x : ∀ (op : Op) (dst : Option Tmp) (d : D) (W : Wr) (cr : Option Nat) (R : List Nat), Op1X P s.next (stE l s (eE E) i) op dst d W cr R → Op1X P s.next { stE l s (eE E) i with next := s.next + cnt (eE E) l.length } op dst d W cr R :=
        fun op dst d W cr R h => by
          rcases h with h | ⟨h, hc⟩ | ⟨fop, args, f, caps, O, e, nb, x0, q1, q2, q3, q4, q5, q6, q7, q8⟩
          · left
            unfold Op1 at h ⊢
            simp only [eqo, ero, efo]
            exact h
          · exact .inr (.inl ⟨cao _ _ _ _ h, hc⟩)
          · exact .inr (.inr ⟨fop, args, f, caps, O, e, nb, x0, q1, by rw [opo]; exact q2, q3, q4, q5, q6, q7, fun nx hnx => by
              rw [List.map_congr_left fun x _ => opo x]
              exact q8 nx (Nat.le_trans hle hnx)⟩)
      by_cases k2 : (E i).2 = 2
      · rw [if_pos k2]
        have := (List.all_eq_true.1 hok2) i (List.mem_range.2 hi)
        rw [Bool.and_eq_true, hlen4 i hi] at this
        have h3 := this.1
        simp only [k2] at h3
        have h4 : ((List.range l.length).any fun p => ((tF4 E l.length).getD p ([], [], 0)).2.2 == 1 && befB l l.length p i) = true := by simpa using h3
        obtain ⟨p, hp, h5⟩ := List.any_eq_true.1 h4
        have hpl := List.mem_range.1 hp
        rw [hlen4 p hpl, Bool.and_eq_true] at h5
        exact ⟨p, by simp only [kd]; rw [if_pos hpl]; simpa using h5.1, hpl, h5.2⟩
      · rw [if_neg k2] at g2 ⊢
        by_cases k1 : (E i).2 = 1
        · rw [if_pos k1] at g2 ⊢
          refine ⟨g2.1, fun s' a1 a2 a3 a4 => g2.2.1 s' a1 a2 (fun x hx => by rw [a3 x hx, opo]) (Nat.le_trans hle a4)⟩
        · rw [if_neg k1] at g2 ⊢
          obtain ⟨_, g2⟩ := g2
          unfold OpGX at g2 ⊢
          split
          · rename_i hg; rw [hg] at g2; exact c1x _ _ _ _ _ _ g2
          · rename_i j want hg
            rw [hg] at g2
            obtain ⟨t, ht, g2⟩ := g2
            refine ⟨t, ht, ?_⟩
            rcases g2 with ⟨b, hb, g2⟩ | g2
            · refine .inl ⟨b, hb, ?_⟩
              split
              · rename_i hbw; rw [if_pos hbw] at g2; exact c1x _ _ _ _ _ _ g2
              · rename_i hbw; rw [if_neg hbw] at g2; exact g2
            · exact .inr g2
    · obtain ⟨s', h3, h4⟩ := hfin fun p hp => by
        obtain ⟨i, hi, rfl⟩ := List.mem_map.1 hp
        have hil := List.mem_range.1 hi
        have := hnk i hil
        simp only [kd] at this
        rw [if_pos hil] at this
        exact this
      refine ⟨s', St.Eqo.trans (b := stE l s (eE E) l.length) ⟨rfl, fun x => ?_, rfl, fun x => ?_⟩ h3, h4⟩
      · simp only [stW, stE]
        rw [wlog_congrW W (tW (eE E)) (fun _ => true) l.length fun j hj => hWe j hj]
      · simp only [stW, stE]
        exact envF_congr (tT (eE E)) _ _ x l 0 s.env s.env rfl fun j o hj _ => by
          have := (List.getElem?_eq_some_iff.1 hj).1
          simp [this]
  · exact this.elim
end Go.VL
