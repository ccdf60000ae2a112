/- The calculus of values (VLq, VLr, VLs, VLt, VLu). -/
import Derived.Test.YtdkadmchdocjbaaVLp
set_option linter.all false
set_option maxRecDepth 100000
set_option maxHeartbeats 8000000
/- The calculus of values: a statement whose operations Go may carry out in more than one order, and that only reads, computes and calls by value: one evaluation in the text's order serves for all orders. -/
namespace Go.VL
open Go

def CallV1 (P : Program) (s : St) (fop : Operand) (args : List Operand) (d : D) : Prop :=
  ∃ f caps ds L, calleeOf (opd s fop) = some (f, caps) ∧ callable P f = true ∧ argsV s (args.map (opd s) ++ caps) = some (ds, L) ∧ Fun P f ds (· = d) ∧ (scalarD d = true ∨ L = [])
def CallV (P : Program) (s : St) (fop : Operand) (args : List Operand) (ret : D → Prop) : Prop := ∃ d, CallV1 P s fop args d ∧ ret d
theorem CallV.fun_ {P s} {fop : Operand} {args : List Operand} {ret : D → Prop} {f caps} {ds : List D} {L : List Nat} {d : D} (hret : Fun P f ds (· = d)) (hf : calleeOf (opd s fop) = some (f, caps)) (hc : callable P f = true)
    (hds : argsV s (args.map (opd s) ++ caps) = some (ds, L)) (hs : scalarD d = true ∨ L = []) (hk : ret d) : CallV P s fop args ret := ⟨d, ⟨f, caps, ds, L, hf, hc, hds, hret, hs⟩, hk⟩
theorem Lin.callV {P s fop args} : Lin (CallV P s fop args) :=
  ⟨fun _ _ hr ⟨d, h1, h2⟩ => ⟨d, h1, hr d h2⟩, fun _ ⟨d, h1, h2⟩ => ⟨d, ⟨d, h1, rfl⟩, h2⟩⟩

def valD (P : Program) (s : St) (op : Op) (ret : D → Prop) : Prop :=
  match op with
  | .call c => match c.callee with
    | .value f => CallV P s f c.args.toList ret
    | _ => evPure P s op ret
  | _ => evPure P s op ret
theorem Lin.valD {P s op} : Lin (valD P s op) := by
  unfold VL.valD
  split
  · split
    · exact Lin.callV
    · exact Lin.evPure
  · exact Lin.evPure

theorem valD_run {P Γ s} {o : Oper} {d : D} (h : valD P s o.op (· = d)) {K : Kr} {a : Act} {w : World} (hin : In Γ K w) (hs : Sim K Γ.own s a w) {Kont : Act → World → Prop} {Q : Exit → Act → World → Prop}
    (hK : ∀ K' v w', In Γ K' w' → K.le K' → K'.hdr = K.hdr → Sat K' Γ.own s.obs w' → Rep K' d v → Kont (a.put o.dst v) w') : o.wp P a w Kont Q := by
  have pure : evPure P s o.op (· = d) → o.wp P a w Kont Q := fun h => by
    obtain ⟨_, rfl, v, hv, hr⟩ := evPure_ok h K Γ.own a w hs
    unfold Oper.wp
    rw [hv]
    exact hK K v w hin (.refl _) rfl hs.sat hr
  obtain ⟨dst, op, type, pos, after, guard⟩ := o
  unfold valD at h
  simp only at h
  split at h
  · rename_i c
    obtain ⟨callee, args, ts⟩ := c
    simp only at h
    split at h
    · obtain ⟨_, ⟨f', caps, ds, L, h1, h2, h3, h4, h5⟩, rfl⟩ := h
      refine callFun_core h1 h2 h3 h4 hin hs fun K' v d' w' g1 g2 g3 g4 g5 g6 => ?_
      subst g6
      refine hK K' v w' g1 g2 g3 ?_ g5
      rcases h5 with h5 | rfl
      · rw [if_pos h5] at g4; exact g4
      · by_cases hsc : scalarD d' = true
        · rw [if_pos hsc] at g4; exact g4
        · rw [if_neg hsc] at g4; exact g4
    · exact pure h
  · exact pure h

-- what an operation hands out hangs on what it looks at alone
theorem argsV_congr {s s' : St} (h : s.obs = s'.obs) (ds : List D) : argsV s ds = argsV s' ds := by
  unfold argsV
  rw [h]
theorem loadD_congr {P} {s s' : St} (h : s.obs = s'.obs) (t : TypeId) (x : D) (r : D → Prop) : loadD P s t x r = loadD P s' t x r := by unfold loadD; rw [h]
theorem indexAddrD_congr {P} {s s' : St} (h : s.obs = s'.obs) (t : TypeId) (x i : D) (r : D → Prop) : indexAddrD P s t x i r = indexAddrD P s' t x i r := by unfold indexAddrD; rw [h]
theorem sliceD_congr {P} {s s' : St} (h : s.obs = s'.obs) (t : TypeId) (x : D) (a b : Option D) (r : D → Prop) : sliceD P s t x a b r = sliceD P s' t x a b r := by unfold sliceD; rw [h]
theorem lenD_congr {P} {s s' : St} (h : s.obs = s'.obs) (t : TypeId) (x : D) (r : D → Prop) : lenD P s t x r = lenD P s' t x r := by unfold lenD; rw [h]

theorem lookD_congr {P} {s s' : St} (h : s.obs = s'.obs) (t : TypeId) (x i : D) (ok : Bool) (r : D → Prop) : lookD P s t x i ok r = lookD P s' t x i ok r := by unfold lookD; rw [h]
theorem evPure_congr {P} {s s' : St} {op : Op} {r : D → Prop} (h : s.obs = s'.obs) (hx : ∀ x ∈ op.operands, opd s x = opd s' x) : evPure P s op r = evPure P s' op r := by
  cases op <;> simp only [Op.operands] at hx <;> unfold evPure <;> (try simp only)
  case move x => rw [hx x (by simp)]
  case assign x => rw [hx x (by simp)]
  case pick c a b => rw [hx c (by simp), hx a (by simp), hx b (by simp)]
  case load t x => rw [hx x (by simp), loadD_congr h]
  case binOp op t x y _ => rw [hx x (by simp), hx y (by simp)]
  case unOp op _ x => rw [hx x (by simp)]
  case convert a b x => rw [hx x (by simp)]
  case fieldAddr t x f => rw [hx x (by simp)]
  case field t x f => rw [hx x (by simp)]
  case indexAddr t x i => rw [hx x (by simp), hx i (by simp), indexAddrD_congr h]
  case index t x i => rw [hx x (by simp), hx i (by simp)]
  case lookup t x i ok => rw [hx x (by simp), hx i (by simp), lookD_congr h]
  case slice t x lo hi mx =>
    have e1 : lo.map (opd s) = lo.map (opd s') := by cases lo <;> simp_all
    have e2 : hi.map (opd s) = hi.map (opd s') := by cases hi <;> simp_all
    cases mx with
    | none => simp only; rw [hx x (by simp), e1, e2, sliceD_congr h]
    | some m => rfl
  case extract x i => rw [hx x (by simp)]
  case nilCheck x => rw [hx x (by simp)]
  case makeInterface t x => rw [hx x (by simp)]
  case typeAssert x xt t ok => rw [hx x (by simp)]
  case makeFunc f first caps =>
    have e : caps.toList.map (opd s) = caps.toList.map (opd s') := List.map_congr_left fun x hm => hx x (by simp; exact .inr (by simpa using hm))
    rw [e]
  case build t parts =>
    have e : (parts.toList.map fun p => (p.1, opd s p.2)) = (parts.toList.map fun p => (p.1, opd s' p.2)) := List.map_congr_left fun p hm => by
      rw [hx p.2 (by simp; exact ⟨p.1, by simpa using hm⟩)]
    rw [e]
  case call c =>
    obtain ⟨callee, args, ts⟩ := c
    cases callee with
    | value f => rfl
    | invoke r m => rfl
    | builtin b =>
      have e : args.toList.map (opd s) = args.toList.map (opd s') := List.map_congr_left fun x hm => hx x (by simp [Call.operands]; simpa using hm)
      cases b <;> simp only <;> try rfl
      case len =>
        obtain ⟨args⟩ := args
        obtain ⟨ts⟩ := ts
        match args, ts with
        | [x], [t] => simp only; rw [hx x (by simp [Call.operands]), lenD_congr h]
        | [], _ => rfl
        | _ :: _ :: _, _ => rfl
        | [_], [] => rfl
        | [_], _ :: _ :: _ => rfl
      case min => rw [e]
      case max => rw [e]

theorem valD_congr {P} {s s' : St} {op : Op} {r : D → Prop} (h : s.obs = s'.obs) (hx : ∀ x ∈ op.operands, opd s x = opd s' x) : valD P s op r = valD P s' op r := by
  unfold valD
  split
  · rename_i c
    obtain ⟨callee, args, ts⟩ := c
    simp only
    split
    · rename_i f
      have e : args.toList.map (opd s) = args.toList.map (opd s') := List.map_congr_left fun x hm => hx x (by simp [Op.operands, Call.operands]; exact .inr (by simpa using hm))
      have ef : opd s f = opd s' f := hx f (by simp [Op.operands, Call.operands])
      unfold CallV CallV1
      simp only [e, ef, argsV_congr h]
    · exact evPure_congr h hx
  · exact evPure_congr h hx

/-- The environment when of the operations those in S have been carried out. -/
def envF (T : Nat → D) (S : Nat → Bool) : List Oper → Nat → List (Nat × D) → List (Nat × D)
  | [], _, e => e
  | o :: l, i, e => envF T S l (i + 1) (if S i then match o.dst with | some x => (x, T i) :: e | none => e else e)

theorem envF_congr (T : Nat → D) (S S' : Nat → Bool) (t : Nat) : ∀ (l : List Oper) (i : Nat) (e e' : List (Nat × D)), getK e t = getK e' t →
    (∀ j o, l[j]? = some o → o.dst = some t → S (i + j) = S' (i + j)) → getK (envF T S l i e) t = getK (envF T S' l i e') t
  | [], i, e, e', he, _ => he
  | o :: l, i, e, e', he, h => by
    simp only [envF]
    refine envF_congr T S S' t l (i + 1) _ _ ?_ (fun j o' hj ho => ?_)
    · cases hd : o.dst with
      | none => simp [he]
      | some x =>
        simp only
        by_cases hx : x = t
        · subst hx
          have := h 0 o rfl hd
          simp only [Nat.add_zero] at this
          rw [this]
          split
          · simp [getK_cons]
          · exact he
        · have key : ∀ (b : Bool) (f : List (Nat × D)), getK (if b then (x, T i) :: f else f) t = getK f t := fun b f => by
            cases b
            · rfl
            · simp [getK_cons, Ne.symm hx]
          rw [key, key, he]
    · have := h (j + 1) o' (by simpa using hj) ho
      rw [show i + 1 + j = i + (j + 1) by omega]
      exact this

theorem envF_put (T : Nat → D) (S : Nat → Bool) (i : Nat) (x : Nat) : ∀ (l : List Oper) (i0 : Nat) (e : List (Nat × D)) (k : Nat) (o : Oper), l[k]? = some o → i0 + k = i → o.dst = some x →
    (∀ j o', l[j]? = some o' → k < j → o'.dst = some x → S (i0 + j) = false) → getK (envF T (fun j => S j || j == i) l i0 e) x = some (T i)
  | [], i0, e, k, o, hk, _, _, _ => by simp at hk
  | p :: l, i0, e, 0, o, hk, hi, hd, h => by
    simp at hk hi
    subst hk
    subst hi
    simp only [envF, hd, beq_self_eq_true, Bool.or_true, if_true]
    have hf : ∀ j o', l[j]? = some o' → o'.dst = some x → (S (i0 + 1 + j) || (i0 + 1 + j == i0)) = false := fun j o' hj ho => by
      have := h (j + 1) o' (by simpa using hj) (by omega) ho
      rw [show i0 + 1 + j = i0 + (j + 1) by omega, this]
      simp
    have := envF_congr T (fun j => S j || j == i0) (fun _ => false) x l (i0 + 1) ((x, T i0) :: e) ((x, T i0) :: e) rfl (fun j o' hj ho => hf j o' hj ho)
    rw [this]
    have none : ∀ (l : List Oper) (i : Nat) (e : List (Nat × D)), envF T (fun _ => false) l i e = e := by
      intro l
      induction l with
      | nil => intro i e; rfl
      | cons o l ih => intro i e; simp [envF, ih]
    rw [none]
    simp [getK_cons]
  | p :: l, i0, e, k + 1, o, hk, hi, hd, h => by
    simp only [envF]
    exact envF_put T S i x l (i0 + 1) _ k o (by simpa using hk) (by omega) hd fun j o' hj hlt ho => by
      have := h (j + 1) o' (by simpa using hj) (by omega) ho
      rw [show i0 + 1 + j = i0 + (j + 1) by omega]
      exact this

-- the order that the edges force
def dirPred (o : Oper) : List Nat := (o.after.toList.filter (Region.binds .any ·)).map (·.on)
/-- i comes before j, by a chain of edges. -/
def befB (ops : List Oper) : Nat → Nat → Nat → Bool
  | 0, _, _ => false
  | n + 1, i, j => match ops[j]? with
    | some o => (dirPred o).any fun p => p == i || befB ops n i p
    | none => false
def meets (all : Array Oper) (x y : Oper) : Bool :=
  match x.dst with
  | some d => (y.looksAt all).contains d || y.dst == some d
  | none => false
def ordOK (ops : List Oper) : Bool :=
  let all := ops.toArray
  let n := ops.length
  (List.range n).all fun j => match ops[j]? with
    | none => true
    | some y => (dirPred y).all (fun p => decide (p < j)) && (match y.op with | .select .. => false | _ => true) && (List.range j).all fun i => match ops[i]? with
      | none => true
      | some x => !(meets all x y || meets all y x) || befB ops n i j

def stF (ops : List Oper) (T : Nat → D) (s : St) (S : Nat → Bool) : St := { s with env := envF T S ops 0 s.env }

def ValG (P : Program) (all : Array Oper) (s : St) (o : Oper) (d : D) : Prop :=
  match o.guard with
  | none => valD P s o.op (· = d)
  | some (j, want) => ∃ t, guardTmp all j = some t ∧ ((∃ b, getK s.env t = some (.u (.bool b)) ∧ if b = want then valD P s o.op (· = d) else d = .un) ∨ (getK s.env t = some .un ∧ d = .un))

section
variable {ops : List Oper} (hord : ordOK ops = true)
include hord
theorem ord_pred {j y} (hj : ops[j]? = some y) : (∀ p ∈ dirPred y, p < j) ∧ (∀ cs b, y.op ≠ .select cs b) ∧ ∀ i x, i < j → ops[i]? = some x → meets ops.toArray x y = true ∨ meets ops.toArray y x = true → befB ops ops.length i j = true := by
  have hlt := (List.getElem?_eq_some_iff.1 hj).1
  have h := (List.all_eq_true.1 hord) j (List.mem_range.2 hlt)
  simp only [hj, Bool.and_eq_true] at h
  obtain ⟨⟨h1, h2⟩, h3⟩ := h
  refine ⟨fun p hp => by simpa using (List.all_eq_true.1 h1) p hp, fun cs b e => (by rw [e] at h2; cases h2), fun i x hij hi hm => ?_⟩
  have h := (List.all_eq_true.1 h3) i (List.mem_range.2 hij)
  simp only [hi] at h
  rcases hm with hm | hm <;> simpa [hm] using h
omit hord in
theorem bef_closed {S : Nat → Bool} (hc : ∀ j y, ops[j]? = some y → S j = true → ∀ p ∈ dirPred y, S p = true) : ∀ (n i j : Nat) (y : Oper), ops[j]? = some y → (∀ p ∈ dirPred y, S p = true) → befB ops n i j = true → S i = true
  | 0, _, _, _, _, _, h => by simp [befB] at h
  | n + 1, i, j, y, hj, hp, h => by
    simp only [befB, hj, List.any_eq_true] at h
    obtain ⟨p, hpm, h⟩ := h
    have hS := hp p hpm
    simp only [Bool.or_eq_true, beq_iff_eq] at h
    rcases h with rfl | h
    · exact hS
    · cases hy : ops[p]? with
      | none =>
        exfalso
        cases n with
        | zero => simp [befB] at h
        | succ n => simp [befB, hy] at h
      | some y' => exact bef_closed hc n i p y' hy (hc p y' hy hS) h
end

/-- The same state, however its slots are listed. -/
def St.Eqv (s s' : St) : Prop := s.n = s'.n ∧ s.obs = s'.obs ∧ s.next = s'.next ∧ ∀ x, getK s.env x = getK s'.env x
theorem St.Eqv.refl (s : St) : s.Eqv s := ⟨rfl, rfl, rfl, fun _ => rfl⟩
theorem St.Eqv.trans {a b c : St} (h : a.Eqv b) (g : b.Eqv c) : a.Eqv c := ⟨h.1.trans g.1, h.2.1.trans g.2.1, h.2.2.1.trans g.2.2.1, fun x => (h.2.2.2 x).trans (g.2.2.2 x)⟩
theorem St.Eqv.put {s s' : St} (h : s.Eqv s') (x : Option Tmp) (d : D) : (s.put x d).Eqv (s'.put x d) := by
  cases x with
  | none => exact h
  | some x => exact ⟨h.1, h.2.1, h.2.2.1, fun y => by simp only [St.put, getK_cons, h.2.2.2 y]⟩
theorem Sim.eqv {k own s s' a w} (h : Sim k own s a w) (e : s.Eqv s') : Sim k own s' a w :=
  ⟨by rw [← e.2.1]; exact h.sat, h.defers, by rw [← e.1]; exact h.size, fun x d hx => by rw [← e.1]; exact h.env x d (by rw [e.2.2.2 x]; exact hx), by rw [← e.2.2.1]; exact h.hdr⟩

theorem V_draw {P Γ} {Q : Exit → St → Prop} {kt : Kt} {id : Nat} {ops : List Oper} {T : Nat → D} {s : St} (hm : P.follows .mixedOrders = true) (hord : ordOK ops = true)
    (hval : ∀ i o, ops[i]? = some o → putOK o.dst s ∧ ValG P ops.toArray (stF ops T s fun j => decide (j < i)) o (T i))
    (hfin : ∃ s', (stF ops T s fun _ => true).Eqv s' ∧ RunK P Γ Q kt .normal s') : V P Γ (.region id ops.toArray true) s (RunK P Γ Q kt) := by
  intro K a w hin hs
  refine wp_region_any hm ?_
  have hin0 : In Γ K { w with drawn := w.drawn + 1 } := ⟨hin.le, hin.none0, hin.memNew, hin.fresh, hin.os, hin.tape, hin.output, hin.size, hin.block⟩
  have hs0 : Sim K Γ.own s a { w with drawn := w.drawn + 1 } := ⟨⟨hs.sat.mem, fun i ob hi => by
      obtain ⟨h, h1, h2, h3⟩ := hs.sat.ob i ob hi
      exact ⟨h, h1, h2, h3.keep (.refl _) fun b e => rfl⟩, hs.sat.apart⟩, hs.defers, hs.size, hs.env, hs.hdr⟩
  generalize ({ w with drawn := w.drawn + 1 } : World) = w0 at hin0 hs0
  have key : ∀ (fuel : Nat) (listed : Array Bool) (K : Kr) (a : Act) (w : World), listed.size = ops.length → (listed.toList.filter (! ·)).length ≤ fuel →
      (∀ j y, ops[j]? = some y → listed.getD j false = true → ∀ p ∈ dirPred y, listed.getD p false = true) → In Γ K w → Sim K Γ.own (stF ops T s fun j => listed.getD j false) a w →
      wpAny P .any ops.toArray (VPost Γ (RunK P Γ Q kt)) fuel listed a w := by
    have allDone : ∀ (listed : Array Bool) (K : Kr) (a : Act) (w : World), (∀ j, j < ops.length → listed.getD j false = true) → In Γ K w → Sim K Γ.own (stF ops T s fun j => listed.getD j false) a w →
        ∃ K' s', In Γ K' w ∧ Sim K' Γ.own s' a w ∧ RunK P Γ Q kt .normal s' := fun listed K a w hall hin hs => by
      obtain ⟨s', he, hfin⟩ := hfin
      refine ⟨K, _, hin, Sim.eqv ?_ he, hfin⟩
      refine ⟨hs.sat, hs.defers, hs.size, fun x d hx => ?_, hs.hdr⟩
      refine hs.env x d ?_
      rw [← hx]
      exact envF_congr T _ _ x ops 0 s.env s.env rfl fun j o hj _ => by
        have hl := (List.getElem?_eq_some_iff.1 hj).1
        simp [hall j hl]
    have least : ∀ (listed : Array Bool), listed.size = ops.length → ∀ i, i < ops.length → listed.getD i false = false → ∃ i0, i0 ∈ Region.ready .any ops.toArray listed := fun listed hsz i hi hu => by
      induction i using Nat.strongRecOn with
      | _ i ih =>
        have ho : ops[i]? = some ops[i] := List.getElem?_eq_getElem hi
        by_cases hp : ∀ p ∈ dirPred ops[i], listed.getD p false = true
        · refine ⟨i, mem_ready.2 ⟨?_, ops[i], by simp, fun e he hb => hp e.on ?_⟩⟩
          · have hi' : i < listed.size := by omega
            simp [hi'] at hu ⊢
            exact hu
          · simp only [dirPred, List.mem_map, List.mem_filter]
            exact ⟨e, ⟨by simpa using he, hb⟩, rfl⟩
        · simp only [Classical.not_forall] at hp
          obtain ⟨p, hpm, hpu⟩ := hp
          have hlt := (ord_pred hord ho).1 p hpm
          exact ih p hlt (by omega) (by simpa using hpu)
    intro fuel
    induction fuel with
    | zero =>
      intro listed K a w hsz hcnt hcl hin hs
      have hall : ∀ j, j < ops.length → listed.getD j false = true := fun j hj => by
        have hj' : j < listed.size := by omega
        have h0 : (listed.toList.filter (! ·)) = [] := List.eq_nil_of_length_eq_zero (by omega)
        have := (List.filter_eq_nil_iff.1 h0) listed[j] (by simp)
        simp only [Bool.not_eq_true', Bool.not_eq_false] at this
        simp [hj', this]
      refine ⟨?_, .inl (allDone listed K a w hall hin hs)⟩
      refine List.eq_nil_iff_forall_not_mem.2 fun i hi => ?_
      obtain ⟨h1, o, ho, _⟩ := mem_ready.1 hi
      have hl : i < ops.length := by
        have := (Array.getElem?_eq_some_iff.1 ho).1
        simpa using this
      have := hall i hl
      have hi' : i < listed.size := by omega
      simp [hi'] at h1 this
      rw [h1] at this
      cases this
    | succ fuel ih =>
      intro listed K a w hsz hcnt hcl hin hs
      refine ⟨fun hnil => .inl (allDone listed K a w (fun j hj => ?_) hin hs), fun i hi => ?_⟩
      · cases hu : listed.getD j false with
        | true => rfl
        | false =>
          obtain ⟨i0, h0⟩ := least listed hsz j hj hu
          rw [hnil] at h0
          cases h0
      · obtain ⟨hun, o, ho, hall⟩ := mem_ready.1 hi
        have ho' : ops[i]? = some o := by simpa using ho
        have hil := (List.getElem?_eq_some_iff.1 ho').1
        have hil' : i < listed.size := by omega
        have hunf : listed.getD i false = false := by simp [hil'] at hun ⊢; exact hun
        have hpred : ∀ p ∈ dirPred o, listed.getD p false = true := fun p hp => by
          simp only [dirPred, List.mem_map, List.mem_filter] at hp
          obtain ⟨e, ⟨he, hb⟩, rfl⟩ := hp
          exact hall e (by simpa using he) hb
        obtain ⟨hpo, hv⟩ := hval i o ho'
        -- who writes a slot that this operation looks at, or writes
        have before : ∀ j x, ops[j]? = some x → j < i → meets ops.toArray x o = true ∨ meets ops.toArray o x = true → listed.getD j false = true := fun j x hj hlt hmm =>
          bef_closed hcl _ j i o ho' hpred ((ord_pred hord ho').2.2 j x hlt hj hmm)
        have behind : ∀ j x, ops[j]? = some x → i < j → meets ops.toArray x o = true ∨ meets ops.toArray o x = true → listed.getD j false = false := fun j x hj hlt hmm => by
          cases hu : listed.getD j false with
          | false => rfl
          | true =>
            have := bef_closed hcl _ i j x hj (hcl j x hj hu) ((ord_pred hord hj).2.2 i o hlt ho' hmm.symm)
            rw [hunf] at this
            cases this
        have agree : ∀ t, t ∈ o.looksAt ops.toArray → getK (envF T (fun j => listed.getD j false) ops 0 s.env) t = getK (envF T (fun j => decide (j < i)) ops 0 s.env) t := fun t ht => by
          refine envF_congr T _ _ t ops 0 s.env s.env rfl fun j x hj hx => ?_
          simp only [Nat.zero_add]
          have hmm : meets ops.toArray x o = true := by simp [meets, hx, ht]
          rcases Nat.lt_trichotomy j i with h | h | h
          · rw [before j x hj h (.inl hmm)]; simp [h]
          · subst h; rw [hunf]; simp
          · rw [behind j x hj h (.inl hmm)]; simp; omega
        have hopd : ∀ x ∈ o.op.operands, opd (stF ops T s fun j => decide (j < i)) x = opd (stF ops T s fun j => listed.getD j false) x := fun x hx => by
          cases x with
          | tmp t =>
            simp only [opd, St.at, stF]
            rw [agree t (List.mem_append_left _ (List.mem_filterMap.2 ⟨.tmp t, by simpa using hx, rfl⟩))]
          | _ => rfl
        have next : ∀ K' v w', In Γ K' w' → K.le K' → K'.hdr = K.hdr → Sat K' Γ.own s.obs w' → Rep K' (T i) v →
            wpAny P .any ops.toArray (VPost Γ (RunK P Γ Q kt)) fuel (listed.setIfInBounds i true) (a.put o.dst v) w' := fun K' v w' h1 h2 h3 h4 h5 => by
          have hS : (fun j => (listed.setIfInBounds i true).getD j false) = fun j => listed.getD j false || j == i := funext fun j => by
            by_cases hji : j = i
            · subst hji; simp [hil']
            · simp [Array.getElem?_setIfInBounds_ne (Ne.symm hji), hji]
          refine ih (listed.setIfInBounds i true) K' (a.put o.dst v) w' (by simp [hsz]) ?_ (fun j y hj hSj p hp => ?_) h1 ?_
          · have cnt : ∀ (l : List Bool) (n : Nat), l[n]? = some false → ((l.set n true).filter (! ·)).length + 1 = (l.filter (! ·)).length := by
              intro l
              induction l with
              | nil => intro n h; simp at h
              | cons b l ih =>
                intro n h
                cases n with
                | zero => simp at h; subst h; simp
                | succ n =>
                  have := ih n (by simpa using h)
                  cases b <;> simp at this ⊢ <;> omega
            have := cnt listed.toList i (by
              rw [Array.getElem?_toList, Array.getElem?_eq_getElem hil']
              simp [hil'] at hunf
              rw [hunf])
            rw [Array.toList_setIfInBounds]
            omega
          · have hS' : ∀ j, (listed.setIfInBounds i true).getD j false = (listed.getD j false || j == i) := fun j => congrFun hS j
            rw [hS'] at hSj ⊢
            simp only [Bool.or_eq_true, beq_iff_eq] at hSj ⊢
            rcases hSj with hSj | rfl
            · exact .inl (hcl j y hj hSj p hp)
            · rw [ho'] at hj
              cases hj
              exact .inl (hpred p hp)
          · rw [hS]
            have hdef : (a.put o.dst v).defers = Γ.own.dfr := by cases o.dst <;> exact hs.defers
            have hsize : (a.put o.dst v).tmps.size = s.n := by
              have hsz2 : a.tmps.size = s.n := hs.size
              cases o.dst <;> simp [Act.put, hsz2]
            refine ⟨h4, hdef, hsize, fun x d hx => ?_, fun j hj => by rw [h3]; exact hs.hdr j hj⟩
            simp only [stF] at hx
            by_cases hdx : o.dst = some x
            · rw [envF_put T _ i x ops 0 s.env i o ho' (by omega) hdx (fun j o' hj hlt hd' => by
                rw [Nat.zero_add]
                exact behind j o' hj hlt (.inl (by simp [meets, hd', hdx])))] at hx
              cases hx
              have hlt : x < s.n := by rw [hdx] at hpo; exact hpo
              refine ⟨hlt, ?_⟩
              have hsz' : a.tmps.size = s.n := hs.size
              rw [hdx]
              simpa [Act.put, hsz', hlt] using h5
            · rw [envF_congr T _ (fun j => listed.getD j false) x ops 0 s.env s.env rfl (fun j o' hj hd' => by
                simp only [Nat.zero_add]
                have : j ≠ i := fun e => by subst e; rw [ho'] at hj; cases hj; exact hdx hd'
                simp [this])] at hx
              obtain ⟨g1, g2⟩ := hs.env x d hx
              refine ⟨g1, ?_⟩
              have e : (a.put o.dst v).tmps.getD x undef = a.tmps.getD x undef := by
                cases hd : o.dst with
                | none => rfl
                | some y =>
                  have hne : y ≠ x := fun e => hdx (by rw [hd, e])
                  simp [Act.put, Array.getElem?_setIfInBounds_ne hne]
              rw [e]
              exact g2.mono h2
        unfold wpOp
        rw [ho]
        simp only
        unfold ValG at hv
        split at hv
        · rename_i hg
          have hw : Region.wanted o (yielded ops.toArray a.tmps) = true := by simp [Region.wanted, hg]
          rw [if_pos hw]
          rw [valD_congr (s := stF ops T s fun j => decide (j < i)) (s' := stF ops T s fun j => listed.getD j false) rfl hopd] at hv
          exact .inl (valD_run hv hin hs fun K' v w' h1 h2 h3 h4 h5 => next K' v w' h1 h2 h3 h4 h5)
        · rename_i j want hg
          obtain ⟨t, ht, hv⟩ := hv
          have lift : ∀ dd, getK (stF ops T s fun j => decide (j < i)).env t = some dd → getK (stF ops T s fun j => listed.getD j false).env t = some dd := fun dd hb => by
            simp only [stF] at hb ⊢
            rw [agree t (by
              refine List.mem_append_right _ ?_
              unfold guardTmp at ht
              simp only [hg]
              rw [ht]
              simp)]
            exact hb
          rcases hv with ⟨b, hb, hv⟩ | ⟨hb, hv⟩
          · have hb' := lift _ hb
            obtain ⟨hlt, hr⟩ := hs.getK hb'
            have hbv := rep_bool hr
            have hyd : yielded ops.toArray a.tmps j = some b := by
              unfold yielded
              unfold guardTmp at ht
              rw [ht]
              simp only [Option.bind_some]
              have : a.tmps[t]? = some (.bool b) := by
                rw [Array.getElem?_eq_getElem hlt]
                simp [hlt] at hbv
                rw [hbv]
              rw [this]
            by_cases hbw : b = want
            · rw [if_pos hbw] at hv
              have hw : Region.wanted o (yielded ops.toArray a.tmps) = true := by simp [Region.wanted, hg, hyd, hbw]
              rw [if_pos hw]
              rw [valD_congr (s := stF ops T s fun j => decide (j < i)) (s' := stF ops T s fun j => listed.getD j false) rfl hopd] at hv
              exact .inl (valD_run hv hin hs fun K' v w' h1 h2 h3 h4 h5 => next K' v w' h1 h2 h3 h4 h5)
            · rw [if_neg hbw] at hv
              have hw : Region.wanted o (yielded ops.toArray a.tmps) = false := by simp [Region.wanted, hg, hyd, hbw]
              rw [if_neg (by rw [hw]; simp)]
              exact next K undef w hin (.refl _) rfl hs.sat (by rw [hv]; exact .u _ _ (.oth _))
          · have hb' := lift _ hb
            obtain ⟨hlt, hr⟩ := hs.getK hb'
            have hbv := rep_oth hr
            have hyd : yielded ops.toArray a.tmps j = none := by
              unfold yielded
              unfold guardTmp at ht
              rw [ht]
              simp only [Option.bind_some]
              have : a.tmps[t]? = some undef := by
                rw [Array.getElem?_eq_getElem hlt]
                simp [hlt] at hbv
                rw [hbv]
              rw [this]
              rfl
            have hw : Region.wanted o (yielded ops.toArray a.tmps) = false := by simp [Region.wanted, hg, hyd]
            rw [if_neg (by rw [hw]; simp)]
            exact next K undef w hin (.refl _) rfl hs.sat (by rw [hv]; exact .u _ _ (.oth _))
  have h0 : (fun j => (Array.replicate ops.toArray.size false).getD j false) = fun _ => false := funext fun j => by
    by_cases hj : j < ops.length <;> simp [hj]
  refine key _ _ K a w0 (by simp) (by simp) (fun j y hj hS => ?_) hin0 ?_
  · have : (Array.replicate ops.toArray.size false).getD j false = false := congrFun h0 j
    rw [this] at hS
    cases hS
  · rw [h0]
    have none : ∀ (l : List Oper) (i : Nat) (e : List (Nat × D)), envF T (fun _ => false) l i e = e := by
      intro l
      induction l with
      | nil => intro i e; rfl
      | cons o l ih => intro i e; simp [envF, ih]
    have : stF ops T s (fun _ => false) = s := by simp [stF, none]
    rw [this]
    exact hs0

-- one evaluation, step by step
def Val1 (P : Program) (s : St) (o : O1) (d : D) : Prop :=
  match o.guard with
  | none => valD P s o.op (· = d)
  | some (t, want) => (∃ b, getK s.env t = some (.u (.bool b)) ∧ if b = want then valD P s o.op (· = d) else d = .un) ∨ (getK s.env t = some .un ∧ d = .un)
def chain (P : Program) : List O1 → St → (St → Prop) → Prop
  | [], s, k => k s
  | o :: rest, s, k => ∃ d, putOK o.dst s ∧ Val1 P s o d ∧ chain P rest (s.put o.dst d) k
def HD (P : Program) (l : List O1) (s : St) (k : St → Prop) : Prop := ∀ s0 : St, s0.Eqv s → chain P l s0 fun s1 => ∃ s', s1.Eqv s' ∧ k s'

theorem opd_eqv {s s' : St} (h : s.Eqv s') (x : Operand) : opd s x = opd s' x := by
  cases x with
  | tmp t => simp only [opd, St.at, h.2.2.2 t]
  | _ => rfl
theorem HD_nil {P s k} (h : k s) : HD P [] s k := fun s0 e => ⟨s, e, h⟩
theorem HD_cons {P s dst op rest k} (h : valD P s op fun d => putOK dst s ∧ HD P rest (s.put dst d) k) : HD P (⟨dst, op, none⟩ :: rest) s k := fun s0 e => by
  obtain ⟨d, hv, hp, hr⟩ := Lin.valD.2 _ h
  refine ⟨d, by cases dst <;> simp_all [putOK, e.1], ?_, hr _ (e.put dst d)⟩
  show valD P s0 op (· = d)
  rw [valD_congr e.2.1 (fun x _ => opd_eqv e x)]
  exact hv
theorem HD_guard {P s dst op rest k t want b} (hb : getK s.env t = some (.u (.bool b))) (hp : putOK dst s)
    (hy : b = want → valD P (s.put (some t) (.u (.bool want))) op fun d => HD P rest ((s.put (some t) (.u (.bool want))).put dst d) k)
    (hn : b = !want → HD P rest ((s.put (some t) (.u (.bool (!want)))).put dst .un) k) : HD P (⟨dst, op, some (t, want)⟩ :: rest) s k := fun s0 e => by
  have lit : ∀ b', b = b' → s.Eqv (s.put (some t) (.u (.bool b'))) := fun b' e' => ⟨rfl, rfl, rfl, fun x => by
    subst e'
    simp only [St.put, getK_cons]
    split
    · rename_i hx; rw [hx, hb]
    · rfl⟩
  have hp0 : putOK dst s0 := by cases dst <;> simp_all [putOK, e.1]
  by_cases hw : b = want
  · have e1 := e.trans (lit want hw)
    obtain ⟨d, hv, hr⟩ := Lin.valD.2 _ (hy hw)
    refine ⟨d, hp0, .inl ⟨b, by rw [e.2.2.2 t]; exact hb, ?_⟩, hr _ (e1.put dst d)⟩
    rw [if_pos hw]
    rw [valD_congr e1.2.1 (fun x _ => opd_eqv e1 x)]
    exact hv
  · have hw' : b = !want := by cases b <;> cases want <;> simp_all
    have e1 := e.trans (lit _ hw')
    exact ⟨.un, hp0, .inl ⟨b, by rw [e.2.2.2 t]; exact hb, by rw [if_neg hw]⟩, hn hw' _ (e1.put dst .un)⟩
theorem HD_guardU {P s dst op rest k t want} (hb : getK s.env t = some .un) (hp : putOK dst s) (hn : HD P rest (s.put dst .un) k) : HD P (⟨dst, op, some (t, want)⟩ :: rest) s k := fun s0 e =>
  ⟨.un, by cases dst <;> simp_all [putOK, e.1], .inr ⟨by rw [e.2.2.2 t]; exact hb, rfl⟩, hn _ (e.put dst .un)⟩

theorem envF_step (T : Nat → D) (i : Nat) : ∀ (l : List Oper) (i0 : Nat) (e : List (Nat × D)) (o : Oper), i0 ≤ i → l[i - i0]? = some o →
    envF T (fun j => decide (j < i + 1)) l i0 e = match o.dst with | some x => (x, T i) :: envF T (fun j => decide (j < i)) l i0 e | none => envF T (fun j => decide (j < i)) l i0 e
  | [], i0, e, o, _, h => by simp at h
  | p :: l, i0, e, o, hi, h => by
    have stop : ∀ (l : List Oper) (m i0 : Nat) (e : List (Nat × D)), m ≤ i0 → envF T (fun j => decide (j < m)) l i0 e = e := by
      intro l
      induction l with
      | nil => intro m i0 e _; rfl
      | cons q l ih =>
        intro m i0 e hm
        simp only [envF]
        rw [if_neg (by simp; omega)]
        exact ih m (i0 + 1) e (by omega)
    by_cases he : i0 = i
    · subst he
      simp at h
      subst h
      simp only [envF]
      rw [stop l (i0 + 1) (i0 + 1) _ (by omega), stop l i0 (i0 + 1) _ (by omega)]
      simp
    · simp only [envF]
      have h1 : decide (i0 < i + 1) = true := by simp; omega
      have h2 : decide (i0 < i) = true := by simp; omega
      rw [if_pos h1, if_pos h2]
      have : i - i0 = (i - (i0 + 1)) + 1 := by omega
      rw [this, List.getElem?_cons_succ] at h
      exact envF_step T i l (i0 + 1) _ o (by omega) h

theorem chain_T {P : Program} {all : Array Oper} {s0 : St} {ops : List Oper} {k : St → Prop} : ∀ (l : List O1) (tail : List Oper) (i : Nat) (T : Nat → D), stripL all tail = some l → (∀ j, tail[j]? = ops[i + j]?) →
    chain P l (stF ops T s0 fun j => decide (j < i)) k → ∃ T', (∀ j, j < i → T' j = T j) ∧ (∀ j o, i ≤ j → ops[j]? = some o → putOK o.dst s0 ∧ ValG P all (stF ops T' s0 fun q => decide (q < j)) o (T' j)) ∧
      k (stF ops T' s0 fun j => decide (j < i + tail.length))
  | [], tail, i, T, hs, ht, h => by
    cases tail with
    | nil => exact ⟨T, fun _ _ => rfl, fun j o hj ho => by have := ht (j - i); rw [show i + (j - i) = j by omega, ho] at this; simp at this, by simpa [chain] using h⟩
    | cons x l => simp only [stripL] at hs; split at hs <;> simp at hs
  | o1 :: l, tail, i, T, hs, ht, h => by
    obtain ⟨x, tl, rfl, hx, hr⟩ := stripL_cons hs
    obtain ⟨d, hp, hv, hc⟩ := h
    have hxi : ops[i]? = some x := by have := ht 0; simpa using this.symm
    have hdst : o1.dst = x.dst := by
      unfold strip at hx
      split at hx
      · simp at hx; subst hx; rfl
      · split at hx
        · simp at hx; subst hx; rfl
        · cases hx
    -- the table with one entry more
    let T1 : Nat → D := fun j => if j = i then d else T j
    have hT1 : ∀ (S : Nat → Bool), S i = false → stF ops T1 s0 S = stF ops T s0 S := fun S hS => by
      have e : ∀ (l : List Oper) (i0 : Nat) (e : List (Nat × D)), envF T1 S l i0 e = envF T S l i0 e := by
        intro l
        induction l with
        | nil => intro i0 e; rfl
        | cons q l ih =>
          intro i0 e
          simp only [envF]
          by_cases hh : i0 = i
          · subst hh; simp [hS, ih]
          · have : T1 i0 = T i0 := by simp [T1, hh]
            rw [this, ih]
      simp only [stF, e]
    have hi : T1 i = d := by simp [T1]
    have hstep : (stF ops T s0 fun j => decide (j < i)).put o1.dst d = stF ops T1 s0 fun j => decide (j < i + 1) := by
      rw [← hT1 _ (by simp), hdst]
      simp only [stF]
      rw [envF_step T1 i ops 0 s0.env x (Nat.zero_le _) (by simpa using hxi)]
      cases x.dst with
      | none => rfl
      | some y => simp [St.put, hi]
    rw [hstep] at hc
    obtain ⟨T', h1, h2, h3⟩ := chain_T l tl (i + 1) T1 hr (fun j => by have := ht (j + 1); rw [show i + 1 + j = i + (j + 1) by omega, ← this]; simp) hc
    have hT' : ∀ j, j ≤ i → stF ops T' s0 (fun q => decide (q < j)) = stF ops T s0 (fun q => decide (q < j)) := fun j hj => by
      have e : ∀ (l : List Oper) (i0 : Nat) (e : List (Nat × D)), envF T' (fun q => decide (q < j)) l i0 e = envF T (fun q => decide (q < j)) l i0 e := by
        intro l
        induction l with
        | nil => intro i0 e; rfl
        | cons q l ih =>
          intro i0 e
          simp only [envF]
          by_cases hh : i0 < j
          · have : T' i0 = T i0 := by rw [h1 i0 (by omega)]; simp only [T1]; rw [if_neg (by omega)]
            rw [this, ih]
          · have hf : ¬ (decide (i0 < j) = true) := by simpa using hh
            rw [if_neg hf, if_neg hf, ih]
      simp only [stF, e]
    refine ⟨T', fun j hj => by rw [h1 j (by omega)]; simp only [T1]; rw [if_neg (by omega)], fun j o hj ho => ?_, ?_⟩
    · rcases Nat.lt_or_ge i j with h' | h'
      · exact h2 j o h' ho
      · obtain rfl : i = j := by omega
        rw [hxi] at ho
        cases ho
        have hTi : T' i = d := by rw [h1 i (by omega), hi]
        rw [hT' i (Nat.le_refl _), hTi]
        refine ⟨by rw [hdst] at hp; cases hd : x.dst <;> simp_all [putOK, stF], ?_⟩
        unfold strip at hx
        unfold ValG
        unfold Val1 at hv
        split at hx
        · rename_i hg
          simp at hx
          subst hx
          rw [hg]
          exact hv
        · rename_i q want hg
          split at hx
          · rename_i t ht'
            simp at hx
            subst hx
            rw [hg]
            exact ⟨t, ht', hv⟩
          · cases hx
    · rw [show i + (x :: tl).length = i + 1 + tl.length by simp; omega]
      exact h3

theorem V_draw1 {P Γ s} {Q : Exit → St → Prop} {kt : Kt} {id : Nat} {l : List Oper} (hm : P.follows .mixedOrders = true) (hord : ordOK l = true)
    (h : ∀ k : St → Prop, (∀ s', RunK P Γ Q kt .normal s' → k s') → match stripL l.toArray l with | some l' => HD P l' s k | none => False) : V P Γ (.region id l.toArray true) s (RunK P Γ Q kt) := by
  have := h _ fun _ h => h
  split at this
  · rename_i l' hl
    have h0 : stF l (fun _ => .any) s (fun j => decide (j < 0)) = s := by
      have hnone : ∀ (l : List Oper) (i : Nat) (e : List (Nat × D)), envF (fun _ => D.any) (fun j => decide (j < 0)) l i e = e := by
        intro l
        induction l with
        | nil => intro i e; rfl
        | cons o l ih => intro i e; exact ih (i + 1) e
      simp only [stF, hnone]
    have hc := this s (.refl s)
    rw [← h0] at hc
    obtain ⟨T, _, h2, s', h3, h4⟩ := chain_T l' l 0 _ hl (fun j => by rw [Nat.zero_add]) hc
    refine V_draw (T := T) hm hord (fun i o ho => h2 i o (Nat.zero_le _) ho) ⟨s', ?_, h4⟩
    have e1 : (stF l T s fun _ => true).Eqv (stF l T s fun j => decide (j < 0 + l.length)) := ⟨rfl, rfl, rfl, fun x => ?_⟩
    · exact e1.trans h3
    exact envF_congr T _ _ x l 0 s.env s.env rfl fun j o hj _ => by
      have := (List.getElem?_eq_some_iff.1 hj).1
      simp [this]
  · exact this.elim

end Go.VL

/- The calculus of values: what a walk needs to know of its words is told by the laws alone. -/
namespace Go.VL
open Go
theorem Fun.of_body {P f fn c ds post} (hf : P.funcs[f]? = some fn) (hb : fn.body = some c) (hn : ds.length ≤ fn.ntmps)
    (h : ∀ Γ : Ctx, Γ.n0 = 0 → V P Γ c (entry ds fn.ntmps [] 0) (RunK P Γ (EndOK P fn 0 fun d _ _ => pureD d = true ∧ post d) .done)) : Fun P f ds post := Ret.of_body hf hb hn h
theorem Fun.mono {P f ds} {p q : D → Prop} (h : Fun P f ds p) (hq : ∀ d, p d → q d) : Fun P f ds q := fun k own w vs h1 h2 h3 h4 =>
  Calls.mono (h k own w vs h1 h2 h3 h4) fun _ _ ⟨v, d, o, n, k', e, a, b, c, g, r, hp, hpost⟩ => ⟨v, d, o, n, k', e, a, b, c, g, r, hp, hq d hpost⟩
theorem Fun.eq {P f ds} {d d' : D} (h : Fun P f ds (· = d)) (e : d = d') : Fun P f ds (· = d') := by rw [← e]; exact h
end Go.VL

/- The calculus of values: a loop that is left in its first round. -/
namespace Go.VL
open Go
theorem V_once {P Γ Q k s} {c : Code} (h : V P Γ c s (RunK P Γ Q (.loop (fun _ => False) k))) : V P Γ (.loop c) s (RunK P Γ Q k) := by
  intro K a w hin hs b kk cs
  obtain ⟨e, a1, w1, hv1, harr⟩ := h K a w hin hs b (.inLoop c :: kk) cs
  rcases hv1 with ⟨K1, s1, h1, h2, h3⟩ | hv1
  · refine (fun (hx : ∃ e a' w', VPost Γ (RunK P Γ Q k) e a' w' ∧ Arrives P (lone (b.at a (.code c :: .inLoop c :: kk)) cs w) b kk cs e a' w') => by
      obtain ⟨e, a', w', hq, harr⟩ := hx
      exact ⟨e, a', w', hq, .of_steps (.one step_loop) harr⟩) ?_
    cases e with
    | normal => exact h3.elim
    | exit id => exact ⟨.exit id, a1, w1, .inl ⟨K1, s1, h1, h2, h3⟩, .pass (x := .inLoop c) rfl (fun _ _ => .inl (by simp)) harr⟩
    | goto l => exact ⟨.goto l, a1, w1, .inl ⟨K1, s1, h1, h2, h3⟩, .pass (x := .inLoop c) rfl (fun _ _ => .inl (by simp)) harr⟩
    | ret => exact ⟨.ret, a1, w1, .inl ⟨K1, s1, h1, h2, h3⟩, .pass (x := .inLoop c) rfl (fun _ _ => .inl (by simp)) harr⟩
    | panic ch => exact ⟨.panic ch, a1, w1, .inl ⟨K1, s1, h1, h2, h3⟩, .pass (x := .inLoop c) rfl (fun _ _ => .inl (by simp)) harr⟩
    | outgrown => exact ⟨.outgrown, a1, w1, .inl ⟨K1, s1, h1, h2, h3⟩, .pass (x := .inLoop c) rfl (fun _ _ => .inl (by simp)) harr⟩
  · cases e with
    | normal => exact hv1.1.elim
    | _ => exact ⟨_, a1, w1, .inr hv1, .of_steps (.one step_loop) (.pass (x := .inLoop c) rfl (fun _ _ => .inl (by simp)) harr)⟩
end Go.VL

/- The calculus of values: what an operation looks at, and changes, of the objects. -/
namespace Go.VL
open Go

def D.ids : D → List Nat
  | .ptr i _ => [i]
  | .vec i _ => [i]
  | .elt i _ _ _ => [i]
  | .mp i => [i]
  | _ => []
/-- An operation that looks at no memory. -/
def freeOp : Op → Bool
  | .move _ | .assign _ | .pick .. | .binOp .. | .unOp .. | .convert .. | .fieldAddr .. | .field .. | .extract .. | .nilCheck .. | .makeFunc .. | .build .. | .index .. => true
  | .call c => match c.callee with | .builtin .min => true | .builtin .max => true | _ => false
  | _ => false
/-- The objects that a call by value borrows. -/
def lentIds (s : St) (f : Operand) (args : List Operand) : List Nat :=
  match calleeOf (opd s f) with
  | some (_, caps) => match argsV s (args.map (opd s) ++ caps) with
    | some (_, l) => l
    | none => []
  | none => []
def callOf : Op → Option (Operand × List Operand)
  | .call c => match c.callee with | .value f => some (f, c.args.toList) | _ => none
  | _ => none
def rdIds (s : St) (op : Op) : List Nat :=
  match callOf op with
  | some (f, args) => lentIds s f args
  | none => if freeOp op then [] else op.operands.toList.flatMap fun x => (opd s x).ids

section
variable {P : Program} {s s' : St}
theorem loadD_loc (t : TypeId) (x : D) (r : D → Prop) (h : ∀ i ∈ x.ids, getK s.obs i = getK s'.obs i) : loadD P s t x r = loadD P s' t x r := by
  unfold loadD
  cases x <;> simp only [D.ids, List.mem_singleton, forall_eq] at h ⊢ <;> (try first | rfl | rw [h] | (rename_i y; cases y <;> first | rfl | (rename_i v; cases v <;> first | rfl | (rename_i a n c; cases n <;> rfl)) | (split <;> rfl)))
theorem indexAddrD_loc (t : TypeId) (x i : D) (r : D → Prop) (h : ∀ i ∈ x.ids, getK s.obs i = getK s'.obs i) : indexAddrD P s t x i r = indexAddrD P s' t x i r := by
  unfold indexAddrD
  cases x <;> simp only [D.ids, List.mem_singleton, forall_eq] at h ⊢ <;> (try first | rfl | rw [h] | (rename_i y; cases y <;> first | rfl | (rename_i v; cases v <;> first | rfl | (rename_i a n c; cases n <;> rfl)) | (split <;> rfl)))
theorem sliceD_loc (t : TypeId) (x : D) (a b : Option D) (r : D → Prop) (h : ∀ i ∈ x.ids, getK s.obs i = getK s'.obs i) : sliceD P s t x a b r = sliceD P s' t x a b r := by
  unfold sliceD
  cases x <;> simp only [D.ids, List.mem_singleton, forall_eq] at h ⊢ <;> (try first | rfl | rw [h] | (rename_i y; cases y <;> first | rfl | (rename_i v; cases v <;> first | rfl | (rename_i a n c; cases n <;> rfl)) | (split <;> rfl)))
theorem lenD_loc (t : TypeId) (x : D) (r : D → Prop) (h : ∀ i ∈ x.ids, getK s.obs i = getK s'.obs i) : lenD P s t x r = lenD P s' t x r := by
  unfold lenD
  cases x <;> simp only [D.ids, List.mem_singleton, forall_eq] at h ⊢ <;> (try first | rfl | rw [h] | (rename_i y; cases y <;> first | rfl | (rename_i v; cases v <;> first | rfl | (rename_i a n c; cases n <;> rfl)) | (split <;> rfl)))
theorem lookD_loc (t : TypeId) (x i : D) (ok : Bool) (r : D → Prop) (h : ∀ i ∈ x.ids, getK s.obs i = getK s'.obs i) : lookD P s t x i ok r = lookD P s' t x i ok r := by
  unfold lookD
  cases mapInf P t with
  | none => rfl
  | some q =>
    obtain ⟨kk, ag, z⟩ := q
    cases x <;> first | rfl | (simp only [D.ids, List.mem_singleton, forall_eq] at h; cases i <;> first | rfl | (simp only [h])) | (rename_i y; cases y <;> rfl) | (rename_i y; cases y <;> cases i <;> rfl)
theorem rowsOf_loc (x : D) (h : ∀ i ∈ x.ids, getK s.obs i = getK s'.obs i) : rowsOf s x = rowsOf s' x := by
  unfold rowsOf
  cases x <;> simp only [D.ids, List.mem_singleton, forall_eq] at h ⊢ <;> (try first | rfl | rw [h] | (rename_i y; cases y <;> first | rfl | (rename_i v; cases v <;> first | rfl | (rename_i a n c; cases n <;> rfl)) | (split <;> rfl)))

theorem rd_op {op : Op} {x : Operand} (hc : callOf op = none) (hf : freeOp op = false) (hx : x ∈ op.operands) {i} (hi : i ∈ (opd s x).ids) : i ∈ rdIds s op := by
  unfold rdIds
  rw [hc, hf]
  exact List.mem_flatMap.2 ⟨x, by simpa using hx, hi⟩

theorem evPure_loc {op : Op} {r : D → Prop} (h : ∀ i ∈ rdIds s op, getK s.obs i = getK s'.obs i) (hx : ∀ x ∈ op.operands, opd s x = opd s' x) (hc : callOf op = none) : evPure P s op r = evPure P s' op r := by
  have hl : freeOp op = false → ∀ x ∈ op.operands, ∀ i ∈ (opd s x).ids, getK s.obs i = getK s'.obs i := fun hf x hm i hi => h i (rd_op hc hf hm hi)
  clear hc
  clear h
  cases op <;> simp only [Op.operands] at hx hl <;> unfold evPure <;> (try simp only)
  case move x => rw [hx x (by simp)]
  case assign x => rw [hx x (by simp)]
  case pick c a b => rw [hx c (by simp), hx a (by simp), hx b (by simp)]
  case load t x => rw [loadD_loc t _ r (hl rfl x (by simp)), hx x (by simp)]
  case binOp op t x y _ => rw [hx x (by simp), hx y (by simp)]
  case unOp op _ x => rw [hx x (by simp)]
  case convert a b x => rw [hx x (by simp)]
  case fieldAddr t x f => rw [hx x (by simp)]
  case field t x f => rw [hx x (by simp)]
  case indexAddr t x i => rw [indexAddrD_loc t _ _ r (hl rfl x (by simp)), hx x (by simp), hx i (by simp)]
  case index t x i => rw [hx x (by simp), hx i (by simp)]
  case lookup t x i ok => rw [lookD_loc t _ _ ok r (hl rfl x (by simp)), hx x (by simp), hx i (by simp)]
  case slice t x lo hi mx =>
    have e1 : lo.map (opd s) = lo.map (opd s') := by cases lo <;> simp_all
    have e2 : hi.map (opd s) = hi.map (opd s') := by cases hi <;> simp_all
    cases mx with
    | none => simp only; rw [sliceD_loc t _ _ _ r (hl rfl x (by simp)), hx x (by simp), e1, e2]
    | some m => rfl
  case extract x i => rw [hx x (by simp)]
  case nilCheck x => rw [hx x (by simp)]
  case makeInterface t x => rw [hx x (by simp)]
  case typeAssert x xt t ok => rw [hx x (by simp)]
  case makeFunc f first caps =>
    have e : caps.toList.map (opd s) = caps.toList.map (opd s') := List.map_congr_left fun x hm => hx x (by simp; exact .inr (by simpa using hm))
    rw [e]
  case build t parts =>
    have e : (parts.toList.map fun p => (p.1, opd s p.2)) = (parts.toList.map fun p => (p.1, opd s' p.2)) := List.map_congr_left fun p hm => by
      rw [hx p.2 (by simp; exact ⟨p.1, by simpa using hm⟩)]
    rw [e]
  case call c =>
    obtain ⟨callee, args, ts⟩ := c
    cases callee with
    | value f => rfl
    | invoke r m => rfl
    | builtin b =>
      have e : args.toList.map (opd s) = args.toList.map (opd s') := List.map_congr_left fun x hm => hx x (by simp [Call.operands]; simpa using hm)
      cases b <;> simp only <;> try rfl
      case len =>
        obtain ⟨args⟩ := args
        obtain ⟨ts⟩ := ts
        match args, ts with
        | [x], [t] => simp only; rw [lenD_loc t _ r (hl rfl x (by simp [Call.operands])), hx x (by simp [Call.operands])]
        | [], _ => rfl
        | _ :: _ :: _, _ => rfl
        | [_], [] => rfl
        | [_], _ :: _ :: _ => rfl
      case min => rw [e]
      case max => rw [e]
theorem valD_loc {op : Op} {r : D → Prop} (h : ∀ i ∈ rdIds s op, getK s.obs i = getK s'.obs i) (hx : ∀ x ∈ op.operands, opd s x = opd s' x) (hv : valD P s op r) : valD P s' op r := by
  unfold valD at hv ⊢
  split at hv
  · rename_i c
    obtain ⟨callee, args, ts⟩ := c
    simp only at hv ⊢
    split at hv
    · rename_i f
      have e : args.toList.map (opd s) = args.toList.map (opd s') := List.map_congr_left fun x hm => hx x (by simp [Op.operands, Call.operands]; exact .inr (by simpa using hm))
      have ef : opd s f = opd s' f := hx f (by simp [Op.operands, Call.operands])
      obtain ⟨d, ⟨g, caps, ds, L, h1, h2, h3, h4⟩, hr⟩ := hv
      have hL : ∀ i ∈ L, getK s.obs i = getK s'.obs i := fun i hi => h i (by
        show i ∈ lentIds s f args.toList
        unfold lentIds
        simp only [h1, h3]
        exact hi)
      refine ⟨d, ⟨g, caps, ds, L, by rw [← ef]; exact h1, h2, ?_, h4⟩, hr⟩
      rw [← e]
      exact argsW_loc h3 hL
    · rename_i hcal
      rw [← evPure_loc (s := s) h hx ?_]
      · exact hv
      · cases callee <;> first | rfl | exact absurd rfl (hcal _)
  · rename_i hcal
    rw [← evPure_loc (s := s) h hx ?_]
    · exact hv
    · cases op <;> first | rfl | exact absurd rfl (hcal _)
end
end Go.VL

/- The calculus of values: operations that make or change objects, told as a list of changes. -/
namespace Go.VL
open Go

/-- Changes: what lies under a number from now on. -/
abbrev Wr := List (Nat × Option Ob)
def applyW : Wr → List (Nat × Ob) → List (Nat × Ob)
  | [], o => o
  | (i, some ob) :: L, o => setOb (applyW L o) i ob
  | (i, none) :: L, o => del (applyW L o) i
theorem getK_applyW : ∀ (L : Wr) (o : List (Nat × Ob)) (y : Nat), getK (applyW L o) y = match getK L y with | some x => x | none => getK o y
  | [], _, _ => rfl
  | (i, some ob) :: L, o, y => by
    simp only [applyW, getK_setOb, getK_cons]
    by_cases h : y = i
    · simp [h]
    · simp [h, getK_applyW L o y]
  | (i, none) :: L, o, y => by
    simp only [applyW, getK_del, getK_cons]
    by_cases h : y = i
    · simp [h]
    · simp [h, getK_applyW L o y]

inductive How where
  | ptr
  | vec (n : Nat)
  | mp
/-- What is changed, what is made, and how the new thing is pointed at. -/
structure ERes where
  U : Wr
  nw : Option Ob
  how : How
def mkD : How → Nat → D
  | .ptr, x => .ptr x 0
  | .vec n, x => .vec x n
  | .mp, x => .mp x

def mapEff (P : Program) (s : St) (t : TypeId) (x i v : D) (ret : ERes → Prop) : Prop :=
  match mapInf P t, x, i with
  | some (kk, ag, _), .mp m, .u key => match getK s.obs m, keyU key, valM ag v with
    | some (.map kk' ag' es), some key, some cells => kk = kk' ∧ ag = ag' ∧ key.kk = kk ∧ ret ⟨[(m, some (.map kk ag (updK es key cells)))], none, .ptr⟩
    | _, _, _ => False
  | _, _, _ => False
theorem Lin.mapEff {P s t x i v} : Lin (mapEff P s t x i v) := by
  unfold VL.mapEff
  split
  · split
    · exact Lin.and (Lin.and (Lin.and (Lin.ret _)))
    · exact Lin.false_
  · exact Lin.false_
theorem mapEff_upd {P : Program} {s : St} {t : TypeId} {x i v : D} {dst : Option Tmp} {F : St → Prop} {k : ERes → Prop} (h : mapEff P s t x i v fun e => putOK dst s ∧ (e.nw = none → dst = none) ∧ k e) (hF : ∀ m ob, k ⟨[(m, some ob)], none, .ptr⟩ → F { s with obs := setOb s.obs m ob }) :
    dst = none ∧ mapUpdD P t x i v s F := by
  unfold mapEff at h
  unfold mapUpdD
  split at h
  · rename_i hinf
    split at h
    · rename_i hg hky hv
      obtain ⟨h1, h2, h3, _, h4, h5⟩ := h
      refine ⟨h4 rfl, ?_⟩
      rw [hinf]
      simp only [hg, hky, hv]
      exact ⟨h1, h2, h3, hF _ _ h5⟩
    · exact h.elim
  · exact h.elim
theorem mapEff_loc {P : Program} {s s' : St} (t : TypeId) (x i v : D) (r : ERes → Prop) (h : ∀ i ∈ x.ids, getK s.obs i = getK s'.obs i) : mapEff P s t x i v r = mapEff P s' t x i v r := by
  unfold mapEff
  cases mapInf P t with
  | none => rfl
  | some q =>
    obtain ⟨kk, ag, z⟩ := q
    cases x <;> first | rfl | (simp only [D.ids, List.mem_singleton, forall_eq] at h; cases i <;> first | rfl | (simp only [h]))
theorem mapEff_mono {P : Program} {s : St} {t : TypeId} {x i v : D} {r r' : ERes → Prop} (h : mapEff P s t x i v r) (hr : ∀ m kk ag es key cells, getK s.obs m = some (.map kk ag es) → valM ag v = some cells → r ⟨[(m, some (.map kk ag (updK es key cells)))], none, .ptr⟩ → r' ⟨[(m, some (.map kk ag (updK es key cells)))], none, .ptr⟩) : mapEff P s t x i v r' := by
  unfold mapEff at h ⊢
  split at h
  · split at h
    · rename_i hg hky hv
      obtain ⟨rfl, rfl, h3, h4⟩ := h
      exact ⟨rfl, rfl, h3, hr _ _ _ _ _ _ hg hv h4⟩
    · exact h.elim
  · exact h.elim
def effD (P : Program) (s : St) (op : Op) (ret : ERes → Prop) : Prop :=
  match op with
  | .alloc t => match zeroC P t with
    | some z => ret ⟨[], some (.box (z.map fun v => .u (uOf v))), .ptr⟩
    | none => False
  | .box _ x => match cellsD (opd s x) with
    | some cs => ones cs = true ∧ ret ⟨[], some (.box cs), .ptr⟩
    | none => False
  | .store t a x => match cellsD (opd s x) with
    | some new => ones new = true ∧ tsz P t = some new.length ∧ (match opd s a with
      | .ptr i off => match getK s.obs i with
        | some (.box cells) => off + new.length ≤ cells.length ∧ ret ⟨[(i, some (.box (setAll cells off new)))], none, .ptr⟩
        | _ => False
      | .elt i sz idx off => match getK s.obs i with
        | some (.vec e sz' rows) => sz = sz' ∧ ∃ r, rows[idx]? = some r ∧ off + new.length ≤ r.length ∧ ret ⟨[(i, some (.vec e sz' (rows.set idx (setAll r off new))))], none, .ptr⟩
        | _ => False
      | _ => False)
    | none => False
  | .buildSlice t n parts => match elInf P t with
    | some (e, sz, _, z) => n * sz ≤ 16777216 ∧ fillD ((List.range n).map fun i => (i * sz, sz)) (parts.toList.map fun p => (p.1, opd s p.2)) (zcells n sz z) fun cs =>
      ones cs = true ∧ ret ⟨[], some (.vec e sz (chunks n sz cs)), How.vec n⟩
    | none => False
  | .makeSlice t x y => match elInf P t, opd s x, opd s y with
    | some (e, sz, bytes, z), .u (.int _ n), .u (.int _ c) => (0 ≤ n ∧ n ≤ c) ∧ c * (bytes : Int) ≤ 140737488355328 ∧ c ≤ 9223372036854775807 ∧
      ret ⟨[], some (.vec e sz (List.replicate n.toNat (z.map fun v => .u (uOf v)))), How.vec n.toNat⟩
    | _, _, _ => False
  | .call c => match c.callee with
    | .builtin .append => match c.args, c.argTypes with
      | ⟨[x, y]⟩, ⟨[t, t']⟩ => t = t' ∧ (match elInf P t, rowsOf s (opd s y) with
        | some (e, sz, bytes, _), some rs => lenR sz rs ∧ onesR rs ∧ (match opd s x with
          | .u .nil => rs.length * bytes ≤ 140737488355328 ∧ rs.length ≤ 9223372036854775807 ∧ ret ⟨[], some (.vec e sz rs), How.vec rs.length⟩
          | .vec i len => match getK s.obs i with
            | some (.vec e' sz' rows) => e = e' ∧ sz = sz' ∧ len ≤ rows.length ∧ (len + rs.length) * bytes ≤ 140737488355328 ∧ len + rs.length ≤ 9223372036854775807 ∧
                ret ⟨[(i, none)], some (.vec e sz (rows.take len ++ rs)), How.vec (len + rs.length)⟩
            | _ => False
          | _ => False)
        | _, _ => False)
      | _, _ => False
    | _ => False
  | .makeMap t none => match mapInf P t with
    | some (kk, ag, _) => ret ⟨[], some (.map kk ag []), .mp⟩
    | none => False
  | .mapUpdate t m i v => mapEff P s t (opd s m) (opd s i) (opd s v) ret
  | .insert t m i v => mapEff P s t (opd s m) (opd s i) (opd s v) ret
  | _ => False

def St.effS (s : St) (e : ERes) (dst : Option Tmp) : St :=
  match e.nw with
  | none => { s with obs := applyW e.U s.obs }
  | some ob => ({ s with obs := (s.next, ob) :: applyW e.U s.obs, next := s.next + 1 } : St).put dst (mkD e.how s.next)

theorem Lin.effD {P s op} : Lin (effD P s op) := by
  unfold VL.effD
  split
  · split
    · exact Lin.ret _
    · exact Lin.false_
  · split
    · exact (Lin.ret _).and
    · exact Lin.false_
  · split
    · refine Lin.and (Lin.and ?_)
      split
      · split
        · exact (Lin.ret _).and
        · exact Lin.false_
      · split
        · exact Lin.and (Lin.ex fun _ => Lin.and (Lin.and (Lin.ret _)))
        · exact Lin.false_
      · exact Lin.false_
    · exact Lin.false_
  · split
    · exact Lin.and ⟨fun r r' hr h => Lin.fillD.1 _ _ (fun cs hcs => ⟨hcs.1, hr _ hcs.2⟩) h, fun r h => by
        obtain ⟨cs, h1, h2, h3⟩ := Lin.fillD.2 _ h
        exact ⟨_, Lin.fillD.1 _ _ (fun cs' e => by subst e; exact ⟨h2, rfl⟩) h1, h3⟩⟩
    · exact Lin.false_
  · split
    · exact Lin.and (Lin.and (Lin.and (Lin.ret _)))
    · exact Lin.false_
  · split
    · split
      · refine Lin.and ?_
        split
        · refine Lin.and (Lin.and ?_)
          split
          · exact Lin.and (Lin.and (Lin.ret _))
          · split
            · exact Lin.and (Lin.and (Lin.and (Lin.and (Lin.and (Lin.ret _)))))
            · exact Lin.false_
          · exact Lin.false_
        · exact Lin.false_
      · exact Lin.false_
    · exact Lin.false_
  · split
    · exact Lin.ret _
    · exact Lin.false_
  · exact Lin.mapEff
  · exact Lin.mapEff
  · exact Lin.false_

theorem effD_free {P s op ret} (h : effD P s op ret) : freeOp op = false := by
  cases op <;> try rfl
  all_goals try exact h.elim
  rename_i c
  obtain ⟨callee, args, ts⟩ := c
  cases callee with
  | builtin b => cases b <;> first | rfl | exact h.elim
  | _ => rfl

theorem effD_hstep {P Γ s op dst k} (h : effD P s op fun e => putOK dst s ∧ (e.nw = none → dst = none) ∧ k (s.effS e dst)) : hstep P Γ dst op s k := by
  unfold effD at h
  split at h
  · simp only [hstep, allocD]
    split at h
    · rename_i z hz
      rw [hz]
      exact ⟨h.1, h.2.2⟩
    · exact h.elim
  · simp only [hstep, boxD]
    split at h
    · rename_i z hz
      rw [hz]
      exact ⟨h.1, h.2.1, h.2.2.2⟩
    · exact h.elim
  · simp only [hstep, storeD]
    split at h
    · rename_i new hz
      obtain ⟨h1, h2, h⟩ := h
      rw [hz]
      split at h
      · rename_i i off ha
        split at h
        · rename_i cells hg
          refine ⟨h.2.2.1 rfl, h1, h2, ?_⟩
          rw [ha]
          simp only [hg]
          exact ⟨h.1, h.2.2.2⟩
        · exact h.elim
      · rename_i i sz idx off ha
        split at h
        · rename_i e sz' rows hg
          obtain ⟨g1, r, g2, g3, g4, g5, g6⟩ := h
          refine ⟨g5 rfl, h1, h2, ?_⟩
          rw [ha]
          simp only [hg]
          exact ⟨g1, r, g2, g3, g6⟩
        · exact h.elim
      · exact h.elim
    · exact h.elim
  · simp only [hstep, buildSliceD]
    split at h
    · rename_i e sz b z hz
      rw [hz]
      exact ⟨h.1, Lin.fillD.1 _ _ (fun cs hc => ⟨hc.1, hc.2.1, hc.2.2.2⟩) h.2⟩
    · exact h.elim
  · simp only [hstep, makeD]
    split at h
    · rename_i e sz b z k1 n k2 c hz hx hy
      rw [hz, hx, hy]
      exact ⟨h.1, h.2.1, h.2.2.1, h.2.2.2.1, h.2.2.2.2.2⟩
    · exact h.elim
  · rename_i c
    obtain ⟨callee, args, ts⟩ := c
    split at h
    · rename_i hcal
      simp only at hcal
      subst hcal
      simp only at h
      split at h
      · rename_i x y t t'
        obtain ⟨rfl, h⟩ := h
        simp only [hstep, appendD]
        refine ⟨trivial, ?_⟩
        split at h
        · rename_i e sz b z rs hz hr
          rw [hz, hr]
          obtain ⟨h1, h2, h⟩ := h
          split at h
          · rename_i hx
            rw [hx]
            exact ⟨h1, h2, h.2.2.1, h.1, h.2.1, h.2.2.2.2⟩
          · rename_i i len hx
            rw [hx]
            split at h
            · rename_i e' sz' rows hg
              simp only [hg]
              obtain ⟨g1, g2, g3, g4, g5, g6, _, g7⟩ := h
              exact ⟨h1, h2, g6, g1, g2, g3, g4, g5, g7⟩
            · exact h.elim
          · exact h.elim
        · exact h.elim
      · exact h.elim
    · exact h.elim
  · simp only [hstep, makeMapD]
    split at h
    · rename_i kk ag z hz
      rw [hz]
      exact ⟨h.1, h.2.2⟩
    · exact h.elim
  · exact mapEff_upd h fun m ob hk => hk
  · exact mapEff_upd h fun m ob hk => hk
  · exact h.elim

theorem effD_call {P s op ret} (h : effD P s op ret) : callOf op = none := by
  cases op <;> try rfl
  rename_i c
  obtain ⟨callee, args, ts⟩ := c
  cases callee with
  | value f => exact h.elim
  | _ => rfl
theorem effD_loc0 {P} {s s' : St} {op : Op} {r : ERes → Prop} (h : ∀ i ∈ rdIds s op, getK s.obs i = getK s'.obs i) (hx : ∀ x ∈ op.operands, opd s x = opd s' x) (hc : callOf op = none) : effD P s op r = effD P s' op r := by
  have hl : freeOp op = false → ∀ x ∈ op.operands, ∀ i ∈ (opd s x).ids, getK s.obs i = getK s'.obs i := fun hf x hm i hi => h i (rd_op hc hf hm hi)
  clear h hc
  cases op <;> try rfl
  all_goals simp only [Op.operands] at hx hl
  case box t x => simp only [effD]; rw [hx x (by simp)]
  case store t a x =>
    have h1 := hl rfl a (by simp)
    have ea := hx a (by simp)
    simp only [effD]
    rw [← hx x (by simp), ← ea]
    cases hd : opd s a <;> try rfl
    all_goals rw [hd] at h1
    all_goals simp only [D.ids, List.mem_singleton, forall_eq] at h1
    all_goals simp only [h1]
  case buildSlice t n parts =>
    have e : (parts.toList.map fun p => (p.1, opd s p.2)) = (parts.toList.map fun p => (p.1, opd s' p.2)) := List.map_congr_left fun p hm => by
      rw [hx p.2 (by simp; exact ⟨p.1, by simpa using hm⟩)]
    simp only [effD, e]
  case makeSlice t x y => simp only [effD]; rw [hx x (by simp), hx y (by simp)]
  case makeMap t r => cases r <;> rfl
  case mapUpdate t m i v => simp only [effD]; rw [mapEff_loc t _ _ _ r (hl rfl m (by simp)), hx m (by simp), hx i (by simp), hx v (by simp)]
  case insert t m i v => simp only [effD]; rw [mapEff_loc t _ _ _ r (hl rfl m (by simp)), hx m (by simp), hx i (by simp), hx v (by simp)]
  case call c =>
    obtain ⟨callee, args, ts⟩ := c
    cases callee with
    | value f => rfl
    | invoke r m => rfl
    | builtin b =>
      cases b <;> try rfl
      obtain ⟨args⟩ := args
      obtain ⟨ts⟩ := ts
      match args, ts with
      | [x, y], [t, t'] =>
        have h1 := hl rfl x (by simp [Call.operands])
        have ex := hx x (by simp [Call.operands])
        have e : rowsOf s (opd s y) = rowsOf s' (opd s' y) := by
          rw [rowsOf_loc _ (hl rfl y (by simp [Call.operands])), hx y (by simp [Call.operands])]
        simp only [effD]
        rw [e, ← ex]
        cases hd : opd s x <;> try rfl
        all_goals rw [hd] at h1
        all_goals simp only [D.ids, List.mem_singleton, forall_eq] at h1
        all_goals first | simp only [h1] | (rename_i y; cases y <;> rfl)
      | [], _ => rfl
      | [_], _ => rfl
      | _ :: _ :: _ :: _, _ => rfl
      | [_, _], [] => rfl
      | [_, _], [_] => rfl
      | [_, _], _ :: _ :: _ :: _ => rfl

theorem effD_loc {P} {s s' : St} {op : Op} {r : ERes → Prop} (h : ∀ i ∈ rdIds s op, getK s.obs i = getK s'.obs i) (hx : ∀ x ∈ op.operands, opd s x = opd s' x) (he : effD P s op r) : effD P s' op r := by
  rw [← effD_loc0 h hx (effD_call he)]
  exact he

-- what new objects are made of
def Ob.all (g : D → Prop) : Ob → Prop
  | .box cs => ∀ c ∈ cs, g c
  | .vec _ _ rows => ∀ r ∈ rows, ∀ c ∈ r, g c
  | .map _ _ es => ∀ p ∈ es, ∀ c ∈ p.2, g c
  | .it _ _ _ _ _ => True
theorem setAll_all {g : D → Prop} : ∀ (new cs : List D) (o : Nat), (∀ c ∈ new, g c) → (∀ c ∈ cs, g c) → ∀ c ∈ setAll cs o new, g c
  | [], _, _, _, h => h
  | d :: ds, cs, o, hn, h => setAll_all ds (cs.set o d) (o + 1) (fun c hc => hn c (by simp [hc])) fun c hc => by
    rcases List.mem_or_eq_of_mem_set hc with hc | rfl
    · exact h c hc
    · exact hn _ (by simp)
theorem updK_all {g : D → Prop} {key : Key} {cells : List D} (hc : ∀ c ∈ cells, g c) : ∀ {es : List (Key × List D)}, (∀ p ∈ es, ∀ c ∈ p.2, g c) → ∀ p ∈ updK es key cells, ∀ c ∈ p.2, g c
  | [], _, p, hp => by simp [updK] at hp; subst hp; exact hc
  | (k, d) :: l, h, p, hp => by
    rw [updK] at hp
    split at hp
    · rcases List.mem_cons.1 hp with rfl | hp
      · exact hc
      · exact h p (by simp [hp])
    · rcases List.mem_cons.1 hp with rfl | hp
      · exact h (k, d) (by simp)
      · exact updK_all hc (fun q hq => h q (by simp [hq])) p hp
section
variable {g : D → Prop} (hu : ∀ x, g (.u x)) (ha : ∀ cs, g (.agg cs) → ∀ c ∈ cs, g c)
include hu ha
theorem cellsD_all {d cs} (h : cellsD d = some cs) (hd : g d) : ∀ c ∈ cs, g c := by
  unfold cellsD at h
  split at h
  · cases h; exact ha _ hd
  · cases h
    intro c hc
    obtain ⟨u, _, rfl⟩ := List.mem_map.1 hc
    exact hu _
  · split at h
    · cases h; intro c hc; simp at hc; subst hc; exact hd
    · cases h
theorem fillD_all {places k} : ∀ {parts : List (Nat × D)} {cs : List D}, fillD places parts cs k → (∀ p ∈ parts, g p.2) → (∀ c ∈ cs, g c) → fillD places parts cs fun r => k r ∧ ∀ c ∈ r, g c
  | [], cs, h, _, hc => ⟨h, hc⟩
  | (f, d) :: rest, cs, h, hp, hc => by
    unfold fillD at h ⊢
    split at h
    · rename_i off n new e1 e2
      exact ⟨h.1, h.2.1, fillD_all h.2.2 (fun p hm => hp p (by simp [hm])) (setAll_all _ _ _ (cellsD_all hu ha e2 (hp (f, d) (by simp))) hc)⟩
    · exact h.elim
theorem valM_all {ag d cs} (h : valM ag d = some cs) (hd : g d) : ∀ c ∈ cs, g c := by
  unfold valM at h
  split at h
  · split at h
    · cases h
      intro c hc
      obtain ⟨u, _, rfl⟩ := List.mem_map.1 hc
      exact hu _
    · cases h
  · split at h
    · cases h; exact ha _ hd
    · cases h
  · split at h
    · cases h; intro c hc; simp at hc; subst hc; exact hd
    · cases h
  · cases h
theorem effD_all {P s op ret} (h : effD P s op ret) (hx : ∀ x ∈ op.operands, g (opd s x)) (ho : ∀ i ob, getK s.obs i = some ob → ob.all g) :
    effD P s op fun e => ret e ∧ (∀ p ∈ e.U, ∀ ob, p.2 = some ob → ob.all g ∧ ∃ o, getK s.obs p.1 = some o) ∧ ∀ ob, e.nw = some ob → ob.all g := by
  unfold effD at h ⊢
  split at h
  · split at h
    · refine ⟨h, by simp, fun ob e => ?_⟩
      cases e
      intro c hc
      obtain ⟨v, _, rfl⟩ := List.mem_map.1 hc
      exact hu _
    · exact h.elim
  · rename_i t x
    split at h
    · rename_i cs hc
      refine ⟨h.1, h.2, by simp, fun ob e => ?_⟩
      cases e
      exact cellsD_all hu ha hc (hx x (by simp [Op.operands]))
    · exact h.elim
  · rename_i t a x
    split at h
    · rename_i new hc
      have hn := cellsD_all hu ha hc (hx x (by simp [Op.operands]))
      refine ⟨h.1, h.2.1, ?_⟩
      replace h := h.2.2
      split at h
      · rename_i i off hd
        split at h
        · rename_i cells hg
          refine ⟨h.1, h.2, fun p hp ob e => ?_, fun ob e => by cases e⟩
          simp at hp
          subst hp
          cases e
          exact ⟨setAll_all _ _ _ hn (ho i _ hg), _, hg⟩
        · exact h.elim
      · rename_i i sz idx off hd
        split at h
        · rename_i e sz' rows hg
          obtain ⟨h1, r, h2, h3, h4⟩ := h
          refine ⟨h1, r, h2, h3, h4, fun p hp ob e => ?_, fun ob e => by cases e⟩
          simp at hp
          subst hp
          cases e
          refine ⟨?_, _, hg⟩
          intro r' hr' c hc'
          have hrow := ho i _ hg
          rcases List.mem_or_eq_of_mem_set hr' with hr' | rfl
          · exact hrow r' hr' c hc'
          · exact setAll_all _ _ _ hn (hrow r (List.mem_of_getElem? h2)) c hc'
        · exact h.elim
      · exact h.elim
    · exact h.elim
  · rename_i t n parts
    split at h
    · rename_i e sz b z hz
      refine ⟨h.1, Lin.fillD.1 _ _ (fun cs hcs => ?_) (fillD_all hu ha h.2 (fun p hp => ?_) (fun c hc => ?_))⟩
      · refine ⟨hcs.1.1, hcs.1.2, by simp, fun ob e => ?_⟩
        cases e
        intro r hr c hc
        obtain ⟨i, _, rfl⟩ := List.mem_map.1 hr
        exact hcs.2 c (List.mem_of_mem_drop (List.mem_of_mem_take hc))
      · obtain ⟨q, hq, rfl⟩ := List.mem_map.1 hp
        exact hx q.2 (by simp [Op.operands]; exact ⟨q.1, by simpa using hq⟩)
      · obtain ⟨j, _, rfl⟩ := List.mem_map.1 hc
        exact hu _
    · exact h.elim
  · split at h
    · refine ⟨h.1, h.2.1, h.2.2.1, h.2.2.2, by simp, fun ob e => ?_⟩
      cases e
      intro r hr c hc
      obtain ⟨_, rfl⟩ := List.mem_replicate.1 hr
      obtain ⟨v, _, rfl⟩ := List.mem_map.1 hc
      exact hu _
    · exact h.elim
  · rename_i c
    obtain ⟨callee, args, ts⟩ := c
    simp only at h hx ⊢
    split at h
    · split at h
      · rename_i x y t t'
        refine ⟨h.1, ?_⟩
        replace h := h.2
        split at h
        · rename_i e sz b z rs hz hr
          have hrs : ∀ r ∈ rs, ∀ c ∈ r, g c := by
            have := hr
            unfold rowsOf at this
            split at this
            · cases this
              intro r hr c hc
              obtain ⟨q, _, rfl⟩ := List.mem_map.1 hr
              obtain ⟨v, _, rfl⟩ := List.mem_map.1 hc
              exact hu _
            · cases this; simp
            · cases this; simp
            · rename_i i len hy
              split at this
              · rename_i e' sz' rows hg
                split at this
                · cases this
                  intro r hr c hc
                  exact ho i _ hg r (List.mem_of_mem_take hr) c hc
                · cases this
              · cases this
            · cases this
          refine ⟨h.1, h.2.1, ?_⟩
          replace h := h.2.2
          split at h
          · refine ⟨h.1, h.2.1, h.2.2, by simp, fun ob e => ?_⟩
            cases e
            exact hrs
          · rename_i i len hx'
            split at h
            · rename_i e' sz' rows hg
              refine ⟨h.1, h.2.1, h.2.2.1, h.2.2.2.1, h.2.2.2.2.1, h.2.2.2.2.2, (fun p hp ob e => by simp at hp; subst hp; cases e), fun ob e => ?_⟩
              cases e
              intro r hr c hc
              rcases List.mem_append.1 hr with hr | hr
              · exact ho i _ hg r (List.mem_of_mem_take hr) c hc
              · exact hrs r hr c hc
            · exact h.elim
          · exact h.elim
        · exact h.elim
      · exact h.elim
    · exact h.elim
  · split at h
    · exact ⟨h, by simp, fun ob e => by cases e; exact fun p hp => by cases hp⟩
    · exact h.elim
  · rename_i t m i v
    refine mapEff_mono h fun mm kk ag es key cells hg hv hr => ⟨hr, fun p hp ob e => ?_, fun ob e => by cases e⟩
    simp at hp
    subst hp
    cases e
    exact ⟨updK_all (valM_all hu ha hv (hx v (by simp [Op.operands]))) (ho _ _ hg), _, hg⟩
  · rename_i t m i v
    refine mapEff_mono h fun mm kk ag es key cells hg hv hr => ⟨hr, fun p hp ob e => ?_, fun ob e => by cases e⟩
    simp at hp
    subst hp
    cases e
    exact ⟨updK_all (valM_all hu ha hv (hx v (by simp [Op.operands]))) (ho _ _ hg), _, hg⟩
  · exact h.elim
end
end Go.VL
