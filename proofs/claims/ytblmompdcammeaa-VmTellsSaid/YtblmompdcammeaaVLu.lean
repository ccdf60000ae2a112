/- The calculus of values: operations that make or change objects, told as a list of changes. -/
import Derived.Test.YtblmompdcammeaaVLt
set_option linter.all false
namespace Go.VL
open Go

/-- Changes: what lies under a number from now on. -/
abbrev Wr := List (Nat × Option Ob)
def applyW : Wr → List (Nat × Ob) → List (Nat × Ob)
  | [], o => o
  | (i, some ob) :: L, o => setOb (applyW L o) i ob
  | (i, none) :: L, o => del (applyW L o) i
theorem getK_applyW : ∀ (L : Wr) (o : List (Nat × Ob)) (y : Nat), getK (applyW L o) y = match getK L y with | some x => x | none => getK o y
  | [], _, _ => rfl
  | (i, some ob) :: L, o, y => by
    simp only [applyW, getK_setOb, getK_cons]
    by_cases h : y = i
    · simp [h]
    · simp [h, getK_applyW L o y]
  | (i, none) :: L, o, y => by
    simp only [applyW, getK_del, getK_cons]
    by_cases h : y = i
    · simp [h]
    · simp [h, getK_applyW L o y]

/-- What is changed, what is made, and how the new thing is pointed at. -/
structure ERes where
  U : Wr
  nw : Option Ob
  how : Option Nat
def mkD : Option Nat → Nat → D
  | none, x => .ptr x 0
  | some n, x => .vec x n

def effD (P : Program) (s : St) (op : Op) (ret : ERes → Prop) : Prop :=
  match op with
  | .alloc t => match zeroC P t with
    | some z => ret ⟨[], some (.box (z.map fun v => .u (uOf v))), none⟩
    | none => False
  | .box _ x => match cellsD (opd s x) with
    | some cs => ones cs = true ∧ ret ⟨[], some (.box cs), none⟩
    | none => False
  | .store t a x => match cellsD (opd s x) with
    | some new => ones new = true ∧ tsz P t = some new.length ∧ (match opd s a with
      | .ptr i off => match getK s.obs i with
        | some (.box cells) => off + new.length ≤ cells.length ∧ ret ⟨[(i, some (.box (setAll cells off new)))], none, none⟩
        | _ => False
      | .elt i sz idx off => match getK s.obs i with
        | some (.vec e sz' rows) => sz = sz' ∧ ∃ r, rows[idx]? = some r ∧ off + new.length ≤ r.length ∧ ret ⟨[(i, some (.vec e sz' (rows.set idx (setAll r off new))))], none, none⟩
        | _ => False
      | _ => False)
    | none => False
  | .buildSlice t n parts => match elInf P t with
    | some (e, sz, _, z) => n * sz ≤ 16777216 ∧ fillD ((List.range n).map fun i => (i * sz, sz)) (parts.toList.map fun p => (p.1, opd s p.2)) (zcells n sz z) fun cs =>
      ones cs = true ∧ ret ⟨[], some (.vec e sz (chunks n sz cs)), some n⟩
    | none => False
  | .makeSlice t x y => match elInf P t, opd s x, opd s y with
    | some (e, sz, bytes, z), .u (.int _ n), .u (.int _ c) => (0 ≤ n ∧ n ≤ c) ∧ c * (bytes : Int) ≤ 140737488355328 ∧ c ≤ 9223372036854775807 ∧
      ret ⟨[], some (.vec e sz (List.replicate n.toNat (z.map fun v => .u (uOf v)))), some n.toNat⟩
    | _, _, _ => False
  | .call c => match c.callee with
    | .builtin .append => match c.args, c.argTypes with
      | ⟨[x, y]⟩, ⟨[t, t']⟩ => t = t' ∧ (match elInf P t, rowsOf s (opd s y) with
        | some (e, sz, bytes, _), some rs => lenR sz rs ∧ onesR rs ∧ (match opd s x with
          | .u .nil => rs.length * bytes ≤ 140737488355328 ∧ rs.length ≤ 9223372036854775807 ∧ ret ⟨[], some (.vec e sz rs), some rs.length⟩
          | .vec i len => match getK s.obs i with
            | some (.vec e' sz' rows) => e = e' ∧ sz = sz' ∧ len ≤ rows.length ∧ (len + rs.length) * bytes ≤ 140737488355328 ∧ len + rs.length ≤ 9223372036854775807 ∧
                ret ⟨[(i, none)], some (.vec e sz (rows.take len ++ rs)), some (len + rs.length)⟩
            | _ => False
          | _ => False)
        | _, _ => False)
      | _, _ => False
    | _ => False
  | _ => False

def St.effS (s : St) (e : ERes) (dst : Option Tmp) : St :=
  match e.nw with
  | none => { s with obs := applyW e.U s.obs }
  | some ob => ({ s with obs := (s.next, ob) :: applyW e.U s.obs, next := s.next + 1 } : St).put dst (mkD e.how s.next)

theorem Lin.effD {P s op} : Lin (effD P s op) := by
  unfold VL.effD
  split
  · split
    · exact Lin.ret _
    · exact Lin.false_
  · split
    · exact (Lin.ret _).and
    · exact Lin.false_
  · split
    · refine Lin.and (Lin.and ?_)
      split
      · split
        · exact (Lin.ret _).and
        · exact Lin.false_
      · split
        · exact Lin.and (Lin.ex fun _ => Lin.and (Lin.and (Lin.ret _)))
        · exact Lin.false_
      · exact Lin.false_
    · exact Lin.false_
  · split
    · exact Lin.and ⟨fun r r' hr h => Lin.fillD.1 _ _ (fun cs hcs => ⟨hcs.1, hr _ hcs.2⟩) h, fun r h => by
        obtain ⟨cs, h1, h2, h3⟩ := Lin.fillD.2 _ h
        exact ⟨_, Lin.fillD.1 _ _ (fun cs' e => by subst e; exact ⟨h2, rfl⟩) h1, h3⟩⟩
    · exact Lin.false_
  · split
    · exact Lin.and (Lin.and (Lin.and (Lin.ret _)))
    · exact Lin.false_
  · split
    · split
      · refine Lin.and ?_
        split
        · refine Lin.and (Lin.and ?_)
          split
          · exact Lin.and (Lin.and (Lin.ret _))
          · split
            · exact Lin.and (Lin.and (Lin.and (Lin.and (Lin.and (Lin.ret _)))))
            · exact Lin.false_
          · exact Lin.false_
        · exact Lin.false_
      · exact Lin.false_
    · exact Lin.false_
  · exact Lin.false_

theorem effD_free {P s op ret} (h : effD P s op ret) : freeOp op = false := by
  cases op <;> try rfl
  all_goals try exact h.elim
  rename_i c
  obtain ⟨callee, args, ts⟩ := c
  cases callee with
  | builtin b => cases b <;> first | rfl | exact h.elim
  | _ => rfl

theorem effD_hstep {P Γ s op dst k} (h : effD P s op fun e => putOK dst s ∧ (e.nw = none → dst = none) ∧ k (s.effS e dst)) : hstep P Γ dst op s k := by
  unfold effD at h
  split at h
  · simp only [hstep, allocD]
    split at h
    · rename_i z hz
      rw [hz]
      exact ⟨h.1, h.2.2⟩
    · exact h.elim
  · simp only [hstep, boxD]
    split at h
    · rename_i z hz
      rw [hz]
      exact ⟨h.1, h.2.1, h.2.2.2⟩
    · exact h.elim
  · simp only [hstep, storeD]
    split at h
    · rename_i new hz
      obtain ⟨h1, h2, h⟩ := h
      rw [hz]
      split at h
      · rename_i i off ha
        split at h
        · rename_i cells hg
          refine ⟨h.2.2.1 rfl, h1, h2, ?_⟩
          rw [ha]
          simp only [hg]
          exact ⟨h.1, h.2.2.2⟩
        · exact h.elim
      · rename_i i sz idx off ha
        split at h
        · rename_i e sz' rows hg
          obtain ⟨g1, r, g2, g3, g4, g5, g6⟩ := h
          refine ⟨g5 rfl, h1, h2, ?_⟩
          rw [ha]
          simp only [hg]
          exact ⟨g1, r, g2, g3, g6⟩
        · exact h.elim
      · exact h.elim
    · exact h.elim
  · simp only [hstep, buildSliceD]
    split at h
    · rename_i e sz b z hz
      rw [hz]
      exact ⟨h.1, Lin.fillD.1 _ _ (fun cs hc => ⟨hc.1, hc.2.1, hc.2.2.2⟩) h.2⟩
    · exact h.elim
  · simp only [hstep, makeD]
    split at h
    · rename_i e sz b z k1 n k2 c hz hx hy
      rw [hz, hx, hy]
      exact ⟨h.1, h.2.1, h.2.2.1, h.2.2.2.1, h.2.2.2.2.2⟩
    · exact h.elim
  · rename_i c
    obtain ⟨callee, args, ts⟩ := c
    split at h
    · rename_i hcal
      simp only at hcal
      subst hcal
      simp only at h
      split at h
      · rename_i x y t t'
        obtain ⟨rfl, h⟩ := h
        simp only [hstep, appendD]
        refine ⟨trivial, ?_⟩
        split at h
        · rename_i e sz b z rs hz hr
          rw [hz, hr]
          obtain ⟨h1, h2, h⟩ := h
          split at h
          · rename_i hx
            rw [hx]
            exact ⟨h1, h2, h.2.2.1, h.1, h.2.1, h.2.2.2.2⟩
          · rename_i i len hx
            rw [hx]
            split at h
            · rename_i e' sz' rows hg
              simp only [hg]
              obtain ⟨g1, g2, g3, g4, g5, g6, _, g7⟩ := h
              exact ⟨h1, h2, g6, g1, g2, g3, g4, g5, g7⟩
            · exact h.elim
          · exact h.elim
        · exact h.elim
      · exact h.elim
    · exact h.elim
  · exact h.elim

theorem effD_call {P s op ret} (h : effD P s op ret) : callOf op = none := by
  cases op <;> try rfl
  rename_i c
  obtain ⟨callee, args, ts⟩ := c
  cases callee with
  | value f => exact h.elim
  | _ => rfl
theorem effD_loc0 {P} {s s' : St} {op : Op} {r : ERes → Prop} (h : ∀ i ∈ rdIds s op, getK s.obs i = getK s'.obs i) (hx : ∀ x ∈ op.operands, opd s x = opd s' x) (hc : callOf op = none) : effD P s op r = effD P s' op r := by
  have hl : freeOp op = false → ∀ x ∈ op.operands, ∀ i ∈ (opd s x).ids, getK s.obs i = getK s'.obs i := fun hf x hm i hi => h i (rd_op hc hf hm hi)
  clear h hc
  cases op <;> try rfl
  all_goals simp only [Op.operands] at hx hl
  case box t x => simp only [effD]; rw [hx x (by simp)]
  case store t a x =>
    have h1 := hl rfl a (by simp)
    have ea := hx a (by simp)
    simp only [effD]
    rw [← hx x (by simp), ← ea]
    cases hd : opd s a <;> try rfl
    all_goals rw [hd] at h1
    all_goals simp only [D.ids, List.mem_singleton, forall_eq] at h1
    all_goals simp only [h1]
  case buildSlice t n parts =>
    have e : (parts.toList.map fun p => (p.1, opd s p.2)) = (parts.toList.map fun p => (p.1, opd s' p.2)) := List.map_congr_left fun p hm => by
      rw [hx p.2 (by simp; exact ⟨p.1, by simpa using hm⟩)]
    simp only [effD, e]
  case makeSlice t x y => simp only [effD]; rw [hx x (by simp), hx y (by simp)]
  case call c =>
    obtain ⟨callee, args, ts⟩ := c
    cases callee with
    | value f => rfl
    | invoke r m => rfl
    | builtin b =>
      cases b <;> try rfl
      obtain ⟨args⟩ := args
      obtain ⟨ts⟩ := ts
      match args, ts with
      | [x, y], [t, t'] =>
        have h1 := hl rfl x (by simp [Call.operands])
        have ex := hx x (by simp [Call.operands])
        have e : rowsOf s (opd s y) = rowsOf s' (opd s' y) := by
          rw [rowsOf_loc _ (hl rfl y (by simp [Call.operands])), hx y (by simp [Call.operands])]
        simp only [effD]
        rw [e, ← ex]
        cases hd : opd s x <;> try rfl
        all_goals rw [hd] at h1
        all_goals simp only [D.ids, List.mem_singleton, forall_eq] at h1
        all_goals first | simp only [h1] | (rename_i y; cases y <;> rfl)
      | [], _ => rfl
      | [_], _ => rfl
      | _ :: _ :: _ :: _, _ => rfl
      | [_, _], [] => rfl
      | [_, _], [_] => rfl
      | [_, _], _ :: _ :: _ :: _ => rfl

theorem effD_loc {P} {s s' : St} {op : Op} {r : ERes → Prop} (h : ∀ i ∈ rdIds s op, getK s.obs i = getK s'.obs i) (hx : ∀ x ∈ op.operands, opd s x = opd s' x) (he : effD P s op r) : effD P s' op r := by
  rw [← effD_loc0 h hx (effD_call he)]
  exact he

-- what new objects are made of
def Ob.all (g : D → Prop) : Ob → Prop
  | .box cs => ∀ c ∈ cs, g c
  | .vec _ _ rows => ∀ r ∈ rows, ∀ c ∈ r, g c
theorem setAll_all {g : D → Prop} : ∀ (new cs : List D) (o : Nat), (∀ c ∈ new, g c) → (∀ c ∈ cs, g c) → ∀ c ∈ setAll cs o new, g c
  | [], _, _, _, h => h
  | d :: ds, cs, o, hn, h => setAll_all ds (cs.set o d) (o + 1) (fun c hc => hn c (by simp [hc])) fun c hc => by
    rcases List.mem_or_eq_of_mem_set hc with hc | rfl
    · exact h c hc
    · exact hn _ (by simp)
section
variable {g : D → Prop} (hu : ∀ x, g (.u x)) (ha : ∀ cs, g (.agg cs) → ∀ c ∈ cs, g c)
include hu ha
theorem cellsD_all {d cs} (h : cellsD d = some cs) (hd : g d) : ∀ c ∈ cs, g c := by
  unfold cellsD at h
  split at h
  · cases h; exact ha _ hd
  · cases h
    intro c hc
    obtain ⟨u, _, rfl⟩ := List.mem_map.1 hc
    exact hu _
  · split at h
    · cases h; intro c hc; simp at hc; subst hc; exact hd
    · cases h
theorem fillD_all {places k} : ∀ {parts : List (Nat × D)} {cs : List D}, fillD places parts cs k → (∀ p ∈ parts, g p.2) → (∀ c ∈ cs, g c) → fillD places parts cs fun r => k r ∧ ∀ c ∈ r, g c
  | [], cs, h, _, hc => ⟨h, hc⟩
  | (f, d) :: rest, cs, h, hp, hc => by
    unfold fillD at h ⊢
    split at h
    · rename_i off n new e1 e2
      exact ⟨h.1, h.2.1, fillD_all h.2.2 (fun p hm => hp p (by simp [hm])) (setAll_all _ _ _ (cellsD_all hu ha e2 (hp (f, d) (by simp))) hc)⟩
    · exact h.elim
theorem effD_all {P s op ret} (h : effD P s op ret) (hx : ∀ x ∈ op.operands, g (opd s x)) (ho : ∀ i ob, getK s.obs i = some ob → ob.all g) :
    effD P s op fun e => ret e ∧ (∀ p ∈ e.U, ∀ ob, p.2 = some ob → ob.all g ∧ ∃ o, getK s.obs p.1 = some o) ∧ ∀ ob, e.nw = some ob → ob.all g := by
  unfold effD at h ⊢
  split at h
  · split at h
    · refine ⟨h, by simp, fun ob e => ?_⟩
      cases e
      intro c hc
      obtain ⟨v, _, rfl⟩ := List.mem_map.1 hc
      exact hu _
    · exact h.elim
  · rename_i t x
    split at h
    · rename_i cs hc
      refine ⟨h.1, h.2, by simp, fun ob e => ?_⟩
      cases e
      exact cellsD_all hu ha hc (hx x (by simp [Op.operands]))
    · exact h.elim
  · rename_i t a x
    split at h
    · rename_i new hc
      have hn := cellsD_all hu ha hc (hx x (by simp [Op.operands]))
      refine ⟨h.1, h.2.1, ?_⟩
      replace h := h.2.2
      split at h
      · rename_i i off hd
        split at h
        · rename_i cells hg
          refine ⟨h.1, h.2, fun p hp ob e => ?_, fun ob e => by cases e⟩
          simp at hp
          subst hp
          cases e
          exact ⟨setAll_all _ _ _ hn (ho i _ hg), _, hg⟩
        · exact h.elim
      · rename_i i sz idx off hd
        split at h
        · rename_i e sz' rows hg
          obtain ⟨h1, r, h2, h3, h4⟩ := h
          refine ⟨h1, r, h2, h3, h4, fun p hp ob e => ?_, fun ob e => by cases e⟩
          simp at hp
          subst hp
          cases e
          refine ⟨?_, _, hg⟩
          intro r' hr' c hc'
          have hrow := ho i _ hg
          rcases List.mem_or_eq_of_mem_set hr' with hr' | rfl
          · exact hrow r' hr' c hc'
          · exact setAll_all _ _ _ hn (hrow r (List.mem_of_getElem? h2)) c hc'
        · exact h.elim
      · exact h.elim
    · exact h.elim
  · rename_i t n parts
    split at h
    · rename_i e sz b z hz
      refine ⟨h.1, Lin.fillD.1 _ _ (fun cs hcs => ?_) (fillD_all hu ha h.2 (fun p hp => ?_) (fun c hc => ?_))⟩
      · refine ⟨hcs.1.1, hcs.1.2, by simp, fun ob e => ?_⟩
        cases e
        intro r hr c hc
        obtain ⟨i, _, rfl⟩ := List.mem_map.1 hr
        exact hcs.2 c (List.mem_of_mem_drop (List.mem_of_mem_take hc))
      · obtain ⟨q, hq, rfl⟩ := List.mem_map.1 hp
        exact hx q.2 (by simp [Op.operands]; exact ⟨q.1, by simpa using hq⟩)
      · obtain ⟨j, _, rfl⟩ := List.mem_map.1 hc
        exact hu _
    · exact h.elim
  · split at h
    · refine ⟨h.1, h.2.1, h.2.2.1, h.2.2.2, by simp, fun ob e => ?_⟩
      cases e
      intro r hr c hc
      obtain ⟨_, rfl⟩ := List.mem_replicate.1 hr
      obtain ⟨v, _, rfl⟩ := List.mem_map.1 hc
      exact hu _
    · exact h.elim
  · rename_i c
    obtain ⟨callee, args, ts⟩ := c
    simp only at h hx ⊢
    split at h
    · split at h
      · rename_i x y t t'
        refine ⟨h.1, ?_⟩
        replace h := h.2
        split at h
        · rename_i e sz b z rs hz hr
          have hrs : ∀ r ∈ rs, ∀ c ∈ r, g c := by
            have := hr
            unfold rowsOf at this
            split at this
            · cases this
              intro r hr c hc
              obtain ⟨q, _, rfl⟩ := List.mem_map.1 hr
              obtain ⟨v, _, rfl⟩ := List.mem_map.1 hc
              exact hu _
            · cases this; simp
            · cases this; simp
            · rename_i i len hy
              split at this
              · rename_i e' sz' rows hg
                split at this
                · cases this
                  intro r hr c hc
                  exact ho i _ hg r (List.mem_of_mem_take hr) c hc
                · cases this
              · cases this
            · cases this
          refine ⟨h.1, h.2.1, ?_⟩
          replace h := h.2.2
          split at h
          · refine ⟨h.1, h.2.1, h.2.2, by simp, fun ob e => ?_⟩
            cases e
            exact hrs
          · rename_i i len hx'
            split at h
            · rename_i e' sz' rows hg
              refine ⟨h.1, h.2.1, h.2.2.1, h.2.2.2.1, h.2.2.2.2.1, h.2.2.2.2.2, (fun p hp ob e => by simp at hp; subst hp; cases e), fun ob e => ?_⟩
              cases e
              intro r hr c hc
              rcases List.mem_append.1 hr with hr | hr
              · exact ho i _ hg r (List.mem_of_mem_take hr) c hc
              · exact hrs r hr c hc
            · exact h.elim
          · exact h.elim
        · exact h.elim
      · exact h.elim
    · exact h.elim
  · exact h.elim
end
end Go.VL
