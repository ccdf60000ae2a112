/- The calculus of values: calls. -/
import Derived.Test.YtblmompdcammeaaVLl
set_option linter.all false
namespace Go.VL
open Go

def callable (P : Program) (f : FuncId) : Bool := match P.funcs[f]? with | some fn => fn.body.isSome && fn.name != "runtime.NumGoroutine" | none => false

/-- A function value and what comes with it. -/
def calleeOf : D → Option (FuncId × List D)
  | .fnc (.func f) caps => some (f, caps)
  | _ => none

theorem call_run {P : Program} {k own s a w} (hs : Sim k own s a w) {fop : Operand} {args : Array Operand} {ts : Array TypeId} {ty : TypeId} {f caps} (hf : calleeOf (opd s fop) = some (f, caps)) (hc : callable P f = true)
    (dst : Option Tmp) (pos : String) (after : Array Edge) (g : Option (Nat × Bool)) :
    ∃ vs, RepL k (args.toList.map (opd s) ++ caps) vs ∧ (execOp a.eval { dst, op := .call { callee := .value fop, args, argTypes := ts }, type := ty, pos, after, guard := g }).run P w = .ok (.enter f vs) w := by
  unfold calleeOf at hf
  split at hf
  · rename_i f' caps' hd
    simp at hf
    obtain ⟨rfl, rfl⟩ := hf
    have hr := opd_rep hs fop
    rw [hd] at hr
    obtain ⟨cv, hl, hv, hcap⟩ := rep_fnc hr
    refine ⟨args.map a.eval ++ cv.toArray, ⟨by simp [hl], fun j d hj => ?_⟩, ?_⟩
    · by_cases hlt : j < args.size
      · rw [List.getElem?_append_left (by simpa using hlt)] at hj
        have := listRep hs args.toList j d hj
        have e : (args.map a.eval ++ cv.toArray).getD j undef = (args.toList.map a.eval).getD j undef := by
          simp [Array.getElem?_append, hlt]
        rw [e]
        exact this
      · rw [List.getElem?_append_right (by simpa using Nat.le_of_not_lt hlt)] at hj
        have := hcap (j - args.size) d (by simpa using hj)
        have e : (args.map a.eval ++ cv.toArray).getD j undef = cv.getD (j - args.size) undef := by
          simp [Array.getElem?_append, hlt]
        rw [e]
        exact this
    · unfold callable at hc
      split at hc
      · rename_i fn hfn
        simp at hc
        obtain ⟨hb, hname⟩ := hc
        have hb' : fn.body.isNone = false := by cases hbb : fn.body <;> simp_all
        have hname' : (fn.name == "runtime.NumGoroutine") = false := by simpa using hname
        simp only [execOp]
        simp [resolve, hv, Deferred.ofValue, invoke, callFunc, hfn, hname', hb', hname]
        intro h0
        rw [h0] at hb
        simp at hb
      · cases hc
  · cases hf

/-- A call by what it does to the objects. -/
theorem Eff.callRet {P Γ s k} {fop : Operand} {args : Array Operand} {ts : Array TypeId} {ty : TypeId} {f caps dst pos after} {ds : List D} {post : D → List (Nat × Ob) → Nat → Prop}
    (hf : calleeOf (opd s fop) = some (f, caps)) (hc : callable P f = true) (hds : args.toList.map (opd s) ++ caps = ds) (hret : Ret P f ds s.obs s.next post) (hp : putOK dst s)
    (hk : ∀ d obs' nx', s.next ≤ nx' → post d obs' nx' → k (({ s with obs := obs', next := nx' } : St).put dst d)) :
    Eff P Γ { dst, op := .call { callee := .value fop, args, argTypes := ts }, type := ty, pos, after, guard := none } s k := by
  intro K a w hin hs Kont Q hK
  obtain ⟨vs, hrep, hrun⟩ := call_run hs (args := args) (ts := ts) (ty := ty) hf hc dst pos after none
  rw [hds] at hrep
  unfold Oper.wp
  rw [hrun]
  refine Calls.mono (hret K Γ.own w vs hs.sat hs.hdr (fun b hb => hin.own_of_ge hb) hrep) ?_
  rintro e w' ⟨v, d, obs', nx', k', rfl, hin', hsat', hhdr', hnx, hr, hpost⟩
  have hle : K.le k' := hin'.le
  have hin2 : In Γ k' w' := hin.step hle (fun b o v e => hin'.memNew b o v e) hin'.os hin'.tape hin'.output hin'.size hin'.block
  have hsim : Sim k' Γ.own ({ s with obs := obs', next := nx' } : St) a w' := ⟨hsat', hs.defers, hs.size, fun x d hx => ⟨(hs.env x d hx).1, (hs.env x d hx).2.mono hle⟩, hhdr'⟩
  exact hK k' _ w' _ hin2 (hsim.put (by cases dst <;> simp_all [putOK]) hr) (hk d obs' nx' hnx hpost)

-- handing over by value
def allU2 : List (List D) → Option (List (List U))
  | [] => some []
  | r :: l => match allU r, allU2 l with | some a, some b => some (a :: b) | _, _ => none
theorem allU_map (l : List U) : allU (l.map .u) = some l := by induction l <;> simp_all [allU]
theorem allU_inv : ∀ {l : List D} {r : List U}, allU l = some r → l = r.map .u
  | [], r, h => by simp [allU] at h; subst h; rfl
  | d :: l, r, h => by
    cases d <;> simp [allU] at h
    cases hl : allU l with
    | none => simp [hl] at h
    | some q => simp [hl] at h; subst h; simp [allU_inv hl]
theorem allU2_inv : ∀ {l : List (List D)} {r : List (List U)}, allU2 l = some r → l = r.map (·.map .u)
  | [], r, h => by simp [allU2] at h; subst h; rfl
  | x :: l, r, h => by
    simp only [allU2] at h
    split at h
    · rename_i a b ha hb
      simp at h
      subst h
      simp [allU_inv ha, allU2_inv hb]
    · cases h
@[simp] theorem allU2_map (l : List (List U)) : allU2 (l.map (·.map .u)) = some l := by induction l <;> simp_all [allU2, allU_map]
@[simp] theorem allU2_take_map (l : List (List U)) (n : Nat) : allU2 ((l.map (·.map D.u)).take n) = some (l.take n) := by rw [← List.map_take]; exact allU2_map _
@[simp] theorem allU2_rowsD (l : List (List U)) : allU2 (rowsD l) = some l := allU2_map l
theorem allU2_append (a b : List (List D)) : allU2 (a ++ b) = match allU2 a, allU2 b with | some x, some y => some (x ++ y) | _, _ => none := by
  induction a with
  | nil => simp only [List.nil_append, allU2]; cases allU2 b <;> rfl
  | cons r a ih =>
    simp only [List.cons_append, allU2, ih]
    cases allU r <;> cases allU2 a <;> cases allU2 b <;> rfl

/-- A value as it is handed over, and the objects that are lent for it. -/
def argU0 (o : List (Nat × Ob)) : D → Option (U × List Nat)
  | .u .nil => some (.sl [], [])
  | .u x => some (x, [])
  | .vec i len => match getK o i with
    | some (.vec _ _ rows) => if len ≤ rows.length then match allU2 (rows.take len) with
      | some us => some (.sl us, [i])
      | none => none else none
    | _ => none
  | _ => none
def argsU0 (o : List (Nat × Ob)) : List D → Option (List U × List Nat)
  | [] => some ([], [])
  | d :: ds => match argU0 o d, argsU0 o ds with
    | some (a, l), some (as, ls) => some (a :: as, l ++ ls)
    | _, _ => none
/-- A variable is lent with what it holds. -/
def argU1 (o : List (Nat × Ob)) : D → Option (U × List Nat)
  | .ptr i off => match getK o i with
    | some (.box cells) => match argsU0 o cells with
      | some (us, l) => some (.row us off, i :: l)
      | none => none
    | _ => none
  | d => argU0 o d
def argsU1 (o : List (Nat × Ob)) : List D → Option (List U × List Nat)
  | [] => some ([], [])
  | d :: ds => match argU1 o d, argsU1 o ds with
    | some (a, l), some (as, ls) => some (a :: as, l ++ ls)
    | _, _ => none
def argW (o : List (Nat × Ob)) : D → Option (D × List Nat)
  | .fnc f caps => match argsU1 o caps with
    | some (us, l) => some (.fnc f (us.map .u), l)
    | none => none
  | d => match argU1 o d with
    | some (x, l) => some (.u x, l)
    | none => none
def argsW (o : List (Nat × Ob)) : List D → Option (List D × List Nat)
  | [] => some ([], [])
  | d :: ds => match argW o d, argsW o ds with
    | some (a, l), some (as, ls) => some (a :: as, l ++ ls)
    | _, _ => none
def argsV (s : St) (ds : List D) : Option (List D × List Nat) := argsW s.obs ds

-- it hangs on the objects that are lent alone
section
variable {o o' : List (Nat × Ob)}
theorem argU0_loc {d x l} (h : argU0 o d = some (x, l)) (he : ∀ i ∈ l, getK o i = getK o' i) : argU0 o' d = some (x, l) := by
  unfold argU0 at h ⊢
  split at h
  · exact h
  · rename_i h'
    cases h
    rfl
  · rename_i i len
    split at h
    · rename_i e sz rows hg
      split at h
      · rename_i hl
        split at h
        · rename_i us hu
          cases h
          rw [← he i (by simp), hg]
          simp only [if_pos hl, hu]
        · cases h
      · cases h
    · cases h
  · cases h
theorem argsU0_loc : ∀ {ds xs l}, argsU0 o ds = some (xs, l) → (∀ i ∈ l, getK o i = getK o' i) → argsU0 o' ds = some (xs, l)
  | [], _, _, h, _ => h
  | d :: ds, xs, l, h, he => by
    unfold argsU0 at h ⊢
    split at h
    · rename_i a l1 as l2 h1 h2
      cases h
      rw [argU0_loc h1 fun i hi => he i (List.mem_append_left _ hi), argsU0_loc h2 fun i hi => he i (List.mem_append_right _ hi)]
    · cases h
theorem argU1_loc {d x l} (h : argU1 o d = some (x, l)) (he : ∀ i ∈ l, getK o i = getK o' i) : argU1 o' d = some (x, l) := by
  unfold argU1 at h ⊢
  split at h
  · rename_i i off
    split at h
    · rename_i cells hg
      split at h
      · rename_i us l1 h1
        cases h
        rw [← he i (by simp), hg]
        simp only [argsU0_loc h1 fun i hi => he i (List.mem_cons_of_mem _ hi)]
      · cases h
    · cases h
  · exact argU0_loc h he
theorem argsU1_loc : ∀ {ds xs l}, argsU1 o ds = some (xs, l) → (∀ i ∈ l, getK o i = getK o' i) → argsU1 o' ds = some (xs, l)
  | [], _, _, h, _ => h
  | d :: ds, xs, l, h, he => by
    unfold argsU1 at h ⊢
    split at h
    · rename_i a l1 as l2 h1 h2
      cases h
      rw [argU1_loc h1 fun i hi => he i (List.mem_append_left _ hi), argsU1_loc h2 fun i hi => he i (List.mem_append_right _ hi)]
    · cases h
theorem argW_loc {d x l} (h : argW o d = some (x, l)) (he : ∀ i ∈ l, getK o i = getK o' i) : argW o' d = some (x, l) := by
  unfold argW at h ⊢
  split at h
  · split at h
    · rename_i us l1 h1
      cases h
      simp only [argsU1_loc h1 he]
    · cases h
  · split at h
    · rename_i x1 l1 h1
      cases h
      rw [argU1_loc h1 he]
    · cases h
theorem argsW_loc : ∀ {ds xs l}, argsW o ds = some (xs, l) → (∀ i ∈ l, getK o i = getK o' i) → argsW o' ds = some (xs, l)
  | [], _, _, h, _ => h
  | d :: ds, xs, l, h, he => by
    unfold argsW at h ⊢
    split at h
    · rename_i a l1 as l2 h1 h2
      cases h
      rw [argW_loc h1 fun i hi => he i (List.mem_append_left _ hi), argsW_loc h2 fun i hi => he i (List.mem_append_right _ hi)]
    · cases h
end

def scalarU : U → Bool
  | .int _ _ | .bool _ | .str _ | .nil | .oth _ => true
  | .agg cs => (cs.map fun c => scalarU c).all id
  | _ => false
def scalarD : D → Bool
  | .u x => scalarU x
  | .tup ds => (ds.map fun d => scalarD d).all id
  | _ => false
theorem RepU.scalar {m m' : Mem} : ∀ {x : U} {v : Value}, RepU m x v → scalarU x = true → RepU m' x v
  | _, _, .int k n, _ => .int k n
  | _, _, .bool b, _ => .bool b
  | _, _, .str l, _ => .str l
  | _, _, .nil, _ => .nil
  | _, _, .oth v, _ => .oth v
  | _, _, .slE a c _, h => by simp [scalarU] at h
  | _, _, .sl .., h => by simp [scalarU] at h
  | _, _, .row .., h => by simp [scalarU] at h
  | _, _, .agg cs vs hl hr, h => .agg cs vs hl fun j u hj => by
    rw [scalarU] at h
    have hu := (List.all_eq_true.1 h) _ (List.mem_map.2 ⟨u, List.mem_of_getElem? hj, rfl⟩)
    have hm := List.mem_of_getElem? hj
    exact RepU.scalar (hr j u hj) hu
termination_by x => SizeOf.sizeOf x
decreasing_by
  simp_wf
  have := List.sizeOf_lt_of_mem hm
  omega
theorem Rep.scalar {k k' : Kr} : ∀ {d : D} {v : Value}, Rep k d v → scalarD d = true → Rep k' d v
  | .u x, v, h, hs => by
    rw [scalarD] at hs
    cases h with | u _ _ h => exact .u _ _ (h.scalar hs)
  | .tup ds, v, h, hs => by
    obtain ⟨vs, hl, rfl, hr⟩ := rep_tup h
    refine .tup ds vs hl fun j d hj => ?_
    rw [scalarD] at hs
    have hu := (List.all_eq_true.1 hs) _ (List.mem_map.2 ⟨d, List.mem_of_getElem? hj, rfl⟩)
    have hm := List.mem_of_getElem? hj
    exact Rep.scalar (hr j d hj) hu
  | .any, _, _, hs => by simp [scalarD] at hs
  | .ptr .., _, _, hs => by simp [scalarD] at hs
  | .vec .., _, _, hs => by simp [scalarD] at hs
  | .elt .., _, _, hs => by simp [scalarD] at hs
  | .fnc .., _, _, hs => by simp [scalarD] at hs
  | .agg .., _, _, hs => by simp [scalarD] at hs
termination_by d => SizeOf.sizeOf d
decreasing_by
  simp_wf
  have := List.sizeOf_lt_of_mem hm
  omega
/-- No object is named. -/
def pureD : D → Bool
  | .u _ => true
  | .tup ds => (ds.map fun d => pureD d).all id
  | _ => false
theorem Rep.pure {k k' : Kr} (hm : k.mem.le k'.mem) : ∀ {d : D} {v : Value}, Rep k d v → pureD d = true → Rep k' d v
  | .u x, v, h, hs => by
    cases h with | u _ _ h => exact .u _ _ (h.mono hm)
  | .tup ds, v, h, hs => by
    obtain ⟨vs, hl, rfl, hr⟩ := rep_tup h
    refine .tup ds vs hl fun j d hj => ?_
    rw [pureD] at hs
    have hu := (List.all_eq_true.1 hs) _ (List.mem_map.2 ⟨d, List.mem_of_getElem? hj, rfl⟩)
    have hmm := List.mem_of_getElem? hj
    exact Rep.pure hm (hr j d hj) hu
  | .any, _, _, hs => by simp [pureD] at hs
  | .ptr .., _, _, hs => by simp [pureD] at hs
  | .vec .., _, _, hs => by simp [pureD] at hs
  | .elt .., _, _, hs => by simp [pureD] at hs
  | .fnc .., _, _, hs => by simp [pureD] at hs
  | .agg .., _, _, hs => by simp [pureD] at hs
termination_by d => SizeOf.sizeOf d
decreasing_by
  simp_wf
  have := List.sizeOf_lt_of_mem hmm
  omega

/-- The block of a lent object. -/
def Lent (k : Kr) (L : List Nat) (b : Nat) : Prop := ∃ i ∈ L, ∃ c, k.hdr i = some (some b, c)
open Classical in
noncomputable def lentMem (k : Kr) (L : List Nat) (w : World) : Mem := fun b o => if Lent k L b then w.cell? ⟨b, o, none⟩ else k.mem b o

section
variable {k : Kr} {own : Nat → Prop} {s : St} {a : Act} {w : World} (hs : Sim k own s a w) (L' : List Nat) (h0 : Nat → Option (Option Nat × Nat))
include hs
theorem lent_le : k.mem.le (lentMem k L' w) := fun b o x hx => by
  unfold lentMem
  split
  · exact hs.sat.mem b o x hx
  · exact hx
theorem argU0_rep {d d' L v} (h : argU0 s.obs d = some (d', L)) (hr : Rep k d v) (hL : ∀ i ∈ L, i ∈ L') :
    RepU (lentMem k L' w) d' v ∧ ∀ i ∈ L, ∃ ob, getK s.obs i = some ob := by
  have hle := lent_le hs L'
  unfold argU0 at h
  split at h
  · simp at h
    obtain ⟨rfl, rfl⟩ := h
    obtain rfl := rep_nil hr
    exact ⟨.slE _ _ fun _ => rfl, by simp⟩
  · simp at h
    obtain ⟨rfl, rfl⟩ := h
    cases hr with | u _ _ hr => exact ⟨hr.mono hle, by simp⟩
  · rename_i i len
    split at h
    · rename_i e sz rows hg
      split at h
      · rename_i hlen
        split at h
        · rename_i us hus
          simp at h
          obtain ⟨rfl, rfl⟩ := h
          refine ⟨?_, fun j hj => by simp at hj; subst hj; exact ⟨_, hg⟩⟩
          have hinv := allU2_inv hus
          have hul : us.length = len := by
            have := congrArg List.length hinv
            simp at this
            omega
          obtain ⟨g, hg', rfl⟩ := rep_vec hr
          obtain ⟨g2, xs, hg2, hrow, hpos, hlen2, hcs, hno⟩ := (hs.sat.ob _ _ hg).vec
          rw [hg'] at hg2
          simp only [Option.some.injEq] at hg2
          subst hg2
          obtain ⟨gb, gc⟩ := g
          by_cases hz : len = 0
          · subst hz
            have : us = [] := List.eq_nil_of_length_eq_zero hul
            subst this
            exact .slE _ _ fun e => ownsRow_capNone hrow (by simpa using e)
          · rcases hrow.2 with ⟨hv, hn⟩ | ⟨b, cap, cur, hv, _, hheap, hncap, hcm, hcs', htake⟩
            · omega
            · have hgb : gb = some b ∧ gc = cap := by
                simp only [headVal, Value.slice.injEq, Option.map_eq_some_iff] at hv
                obtain ⟨⟨b', hb', e⟩, _, hc⟩ := hv
                simp only [Addr.mk.injEq] at e
                exact ⟨by rw [hb', e.1], hc⟩
              obtain ⟨rfl, rfl⟩ := hgb
              have hlent : Lent k L' b := ⟨i, hL i (by simp), gc, hg'⟩
              have hxl := hrow.1
              have hcell : ∀ j u, xs[j]? = some u → w.cell? ⟨b, j, none⟩ = some u := fun j u hj => by
                have := hrow.cells (g := b) (by simp [headVal, Value.ownBlock]) j u hj
                rwa [addr_add, Nat.zero_add] at this
              have hr0 : ∀ i r, us[i]? = some r → rows[i]? = some (r.map .u) ∧ i < len := fun i r hi => by
                have hil := (List.getElem?_eq_some_iff.1 hi).1
                have : (rows.take len)[i]? = some (r.map .u) := by rw [hinv]; simp [hi]
                rw [List.getElem?_take, if_pos (by omega)] at this
                exact ⟨this, by omega⟩
              have hmul : ∀ i, i < len → i * sz + sz ≤ xs.length := fun i hi => by
                rw [hxl]
                have : (i + 1) * sz ≤ rows.length * sz := Nat.mul_le_mul_right _ (by omega)
                rw [Nat.add_mul, Nat.one_mul] at this
                exact this
              have e : headVal (some b, gc) len = .slice (some ⟨b, 0, none⟩) us.length gc := by rw [hul]; rfl
              rw [e]
              refine (.sl us b 0 sz gc (fun i j => xs.getD (i * sz + j) undef) (by omega) hcm (fun r hr => ?_) (fun i hi j hj => ?_) (fun i r hi j u hj => ?_))
              · obtain ⟨i, hi⟩ := List.getElem?_of_mem hr
                have := hlen2 _ (List.mem_of_getElem? (hr0 i r hi).1)
                simpa using this
              · simp only [lentMem, if_pos hlent, Nat.zero_add]
                have hb := hmul i (by omega)
                exact hcell _ _ (by simp [show i * sz + j < xs.length by omega])
              · obtain ⟨h1, h2⟩ := hr0 i r hi
                have := (hcs i _ h1 j (.u u) (by simp [hj])).2
                cases this with | u _ _ this => exact this.mono hle
        · cases h
      · cases h
    · cases h
  · cases h

theorem argsU0_rep : ∀ {ds : List D} {xs : List U} {L : List Nat} (f : Nat → Value), argsU0 s.obs ds = some (xs, L) → (∀ j d, ds[j]? = some d → Rep k d (f j)) → (∀ i ∈ L, i ∈ L') →
    xs.length = ds.length ∧ (∀ j x, xs[j]? = some x → RepU (lentMem k L' w) x (f j)) ∧ ∀ i ∈ L, ∃ ob, getK s.obs i = some ob
  | [], xs, L, f, h, hr, hL => by
    simp [argsU0] at h
    obtain ⟨rfl, rfl⟩ := h
    exact ⟨rfl, by simp, by simp⟩
  | d :: ds, xs, L, f, h, hr, hL => by
    unfold argsU0 at h
    split at h
    · rename_i a' l as ls ha has
      simp at h
      obtain ⟨rfl, rfl⟩ := h
      obtain ⟨h1, h2⟩ := argU0_rep hs L' ha (hr 0 d rfl) (fun i hi => hL i (List.mem_append_left _ hi))
      obtain ⟨h3, h4, h5⟩ := argsU0_rep (fun j => f (j + 1)) has (fun j e hj => by simpa using hr (j + 1) e (by simpa using hj)) (fun i hi => hL i (List.mem_append_right _ hi))
      refine ⟨by simp [h3], fun j e hj => ?_, fun i hi => (List.mem_append.1 hi).elim (h2 i) (h5 i)⟩
      cases j with
      | zero => simp at hj; subst hj; exact h1
      | succ j => exact h4 j e (by simpa using hj)
    · cases h
theorem argU1_rep {d d' L v} (h : argU1 s.obs d = some (d', L)) (hr : Rep k d v) (hL : ∀ i ∈ L, i ∈ L') :
    RepU (lentMem k L' w) d' v ∧ ∀ i ∈ L, ∃ ob, getK s.obs i = some ob := by
  unfold argU1 at h
  split at h
  · rename_i i off
    split at h
    · rename_i cells hg
      split at h
      · rename_i us l hus
        simp at h
        obtain ⟨rfl, rfl⟩ := h
        obtain ⟨b, c, vs, t, hh, hown, hheap, hsz, hcells, hno⟩ := (hs.sat.ob i _ hg).box
        obtain ⟨b', c', hh', rfl⟩ := rep_ptr hr
        rw [hh] at hh'
        simp only [Option.some.injEq, Prod.mk.injEq] at hh'
        obtain ⟨rfl, rfl⟩ := hh'
        obtain ⟨h1, h2, h3⟩ := argsU0_rep hs L' (fun j => vs.getD j undef) hus (fun j d hj => (hcells j d hj).2) (fun i hi => hL i (List.mem_cons_of_mem _ hi))
        have hlent : Lent k L' b := ⟨i, hL i (by simp), c, hh⟩
        refine ⟨?_, fun j hj => ?_⟩
        · have := RepU.row (m := lentMem k L' w) us off b 0 (fun j => vs.getD j undef) (fun j hj => by
            simp only [lentMem, if_pos hlent, Nat.zero_add]
            rw [cell_of_row w b j vs t (0, 0) hheap]
            simp [show j < vs.size by omega]) h2
          simpa using this
        · rcases List.mem_cons.1 hj with rfl | hj
          · exact ⟨_, hg⟩
          · exact h3 j hj
      · cases h
    · cases h
  · exact argU0_rep hs L' h hr hL
theorem argsU1_rep : ∀ {ds : List D} {xs : List U} {L : List Nat} (f : Nat → Value), argsU1 s.obs ds = some (xs, L) → (∀ j d, ds[j]? = some d → Rep k d (f j)) → (∀ i ∈ L, i ∈ L') →
    xs.length = ds.length ∧ (∀ j x, xs[j]? = some x → RepU (lentMem k L' w) x (f j)) ∧ ∀ i ∈ L, ∃ ob, getK s.obs i = some ob
  | [], xs, L, f, h, hr, hL => by
    simp [argsU1] at h
    obtain ⟨rfl, rfl⟩ := h
    exact ⟨rfl, by simp, by simp⟩
  | d :: ds, xs, L, f, h, hr, hL => by
    unfold argsU1 at h
    split at h
    · rename_i a' l as ls ha has
      simp at h
      obtain ⟨rfl, rfl⟩ := h
      obtain ⟨h1, h2⟩ := argU1_rep hs L' ha (hr 0 d rfl) (fun i hi => hL i (List.mem_append_left _ hi))
      obtain ⟨h3, h4, h5⟩ := argsU1_rep (fun j => f (j + 1)) has (fun j e hj => by simpa using hr (j + 1) e (by simpa using hj)) (fun i hi => hL i (List.mem_append_right _ hi))
      refine ⟨by simp [h3], fun j e hj => ?_, fun i hi => (List.mem_append.1 hi).elim (h2 i) (h5 i)⟩
      cases j with
      | zero => simp at hj; subst hj; exact h1
      | succ j => exact h4 j e (by simpa using hj)
    · cases h
theorem argW_rep {d d' L v} (h : argW s.obs d = some (d', L)) (hr : Rep k d v) (hL : ∀ i ∈ L, i ∈ L') :
    Rep ⟨lentMem k L' w, h0⟩ d' v ∧ ∀ i ∈ L, ∃ ob, getK s.obs i = some ob := by
  unfold argW at h
  split at h
  · rename_i f caps
    split at h
    · rename_i us l hus
      simp at h
      obtain ⟨rfl, rfl⟩ := h
      obtain ⟨vs, hl, rfl, hc⟩ := rep_fnc hr
      obtain ⟨h1, h2, h3⟩ := argsU1_rep hs L' (fun j => vs.getD j undef) hus hc hL
      refine ⟨.fnc f _ vs (by simpa using h1.trans hl) fun j d hj => ?_, h3⟩
      rw [List.getElem?_map] at hj
      cases hx : us[j]? with
      | none => simp [hx] at hj
      | some x =>
        simp [hx] at hj
        subst hj
        exact .u _ _ (h2 j x hx)
    · cases h
  · split at h
    · rename_i x l hx
      simp at h
      obtain ⟨rfl, rfl⟩ := h
      obtain ⟨h1, h2⟩ := argU1_rep hs L' hx hr hL
      exact ⟨.u _ _ h1, h2⟩
    · cases h
end
theorem argsV_rep {k own s a w} (hs : Sim k own s a w) (L' : List Nat) (h0 : Nat → Option (Option Nat × Nat)) : ∀ {ds ds' : List D} {L : List Nat} {vs : List Value}, argsV s ds = some (ds', L) → ds.length = vs.length →
    (∀ j d, ds[j]? = some d → Rep k d (vs.getD j undef)) → (∀ i ∈ L, i ∈ L') →
    ds'.length = vs.length ∧ (∀ j d, ds'[j]? = some d → Rep ⟨lentMem k L' w, h0⟩ d (vs.getD j undef)) ∧ ∀ i ∈ L, ∃ ob, getK s.obs i = some ob
  | [], ds', L, vs, h, hl, hr, hL => by
    simp [argsV, argsW] at h
    obtain ⟨rfl, rfl⟩ := h
    exact ⟨hl, by simp, by simp⟩
  | d :: ds, ds', L, [], h, hl, hr, hL => by simp at hl
  | d :: ds, ds', L, v :: vs, h, hl, hr, hL => by
    simp only [argsV, argsW] at h
    split at h
    · rename_i a' l as ls ha has
      simp at h
      obtain ⟨rfl, rfl⟩ := h
      obtain ⟨h1, h2⟩ := argW_rep hs L' h0 ha (hr 0 d rfl) (fun i hi => hL i (List.mem_append_left _ hi))
      obtain ⟨h3, h4, h5⟩ := argsV_rep hs L' h0 has (by simpa using hl) (fun j e hj => by simpa using hr (j + 1) e (by simpa using hj)) (fun i hi => hL i (List.mem_append_right _ hi))
      refine ⟨by simp [h3], fun j e hj => ?_, fun i hi => (List.mem_append.1 hi).elim (h2 i) (h5 i)⟩
      cases j with
      | zero => simp at hj; subst hj; simpa using h1
      | succ j => simpa using h4 j e (by simpa using hj)
    · cases h

def delAll (obs : List (Nat × Ob)) (L : List Nat) : List (Nat × Ob) := L.foldl del obs
theorem getK_delAll : ∀ (L : List Nat) (obs : List (Nat × Ob)) (j : Nat), getK (delAll obs L) j = if j ∈ L then none else getK obs j
  | [], obs, j => by simp [delAll]
  | i :: L, obs, j => by
    show getK (delAll (del obs i) L) j = _
    rw [getK_delAll L, getK_del]
    by_cases h1 : j ∈ L
    · simp [h1]
    · by_cases h2 : j = i <;> simp [h1, h2]
theorem Sat.delAll {k own w} : ∀ (L : List Nat) {obs : List (Nat × Ob)}, Sat k own obs w → Sat k own (VL.delAll obs L) w
  | [], _, h => h
  | i :: L, _, h => Sat.delAll L (h.del i)

/-- What a function does that is handed values alone. -/
def Fun (P : Program) (f : FuncId) (ds : List D) (post : D → Prop) : Prop := Ret P f ds [] 0 fun d _ _ => pureD d = true ∧ post d

/-- A call by value, told whole. -/
theorem callFun_core {P Γ s} {fop : Operand} {args : Array Operand} {ts : Array TypeId} {ty : TypeId} {f caps dst pos after guard} {ds : List D} {L : List Nat} {post : D → Prop}
    (hf : calleeOf (opd s fop) = some (f, caps)) (hc : callable P f = true) (hds : argsV s (args.toList.map (opd s) ++ caps) = some (ds, L)) (hret : Fun P f ds post)
    {K : Kr} {a : Act} {w : World} (hin : In Γ K w) (hs : Sim K Γ.own s a w) {Kont : Act → World → Prop} {Q : Exit → Act → World → Prop}
    (hK : ∀ K' v d w', In Γ K' w' → K.le K' → K'.hdr = K.hdr → Sat K' Γ.own (if scalarD d then s.obs else delAll s.obs L) w' → Rep K' d v → post d → Kont (a.put dst v) w') :
    Oper.wp P { dst, op := .call { callee := .value fop, args, argTypes := ts }, type := ty, pos, after, guard } a w Kont Q := by
  obtain ⟨vs, hrep, hrun⟩ := call_run hs (args := args) (ts := ts) (ty := ty) hf hc dst pos after guard
  obtain ⟨h1, h2, hLo⟩ := argsV_rep hs L (fun _ => none) (vs := vs.toList) hds (by simpa using hrep.1.symm) (fun j d hj => by simpa using hrep.2 j d hj) (fun _ h => h)
  unfold Oper.wp
  rw [hrun]
  have hmem1 : K.mem.le (lentMem K L w) := fun b o x hx => by
    unfold lentMem
    split
    · exact hs.sat.mem b o x hx
    · exact hx
  have hsat1 : Sat ⟨lentMem K L w, fun _ => none⟩ (fun b => w.heap.size ≤ b) [] w := ⟨fun b o v hv => by
      simp only [lentMem] at hv
      split at hv
      · exact hv
      · exact hs.sat.mem b o v hv, fun i ob hi => by simp [VL.getK] at hi, fun i j x y h g b hx => by simp [VL.getK] at hx⟩
  refine Calls.mono (hret ⟨lentMem K L w, fun _ => none⟩ (fun b => w.heap.size ≤ b) w vs hsat1 (fun _ _ => rfl) (fun b hb => hb) ⟨by simpa using h1.symm, fun j d hj => by simpa using h2 j d hj⟩) ?_
  rintro e w' ⟨v, d, obs', nx', k', rfl, hin', hsat', hhdr', hnx, hr, hpure, hpost⟩
  have hheap : ∀ b, b < w.heap.size → w'.heap[b]? = w.heap[b]? := fun b hb => hin'.block b (by simpa using hb)
  -- the lent blocks are of the call's own
  have hlentOwn : ∀ b, Lent K L b → Γ.own b ∧ b < w.heap.size := fun b ⟨i, hi, c, hh⟩ => by
    obtain ⟨ob, hob⟩ := hLo i hi
    obtain ⟨g, h3, h4, _⟩ := hs.sat.ob i ob hob
    rw [hh] at h3
    cases h3
    exact ⟨(h4 b rfl).1, hs.sat.lt ⟨i, ob, _, hob, hh, rfl⟩⟩
  by_cases hsc : scalarD d = true
  · have hin2 : In Γ K w' := hin.step (.refl _) (fun b o v e => .inl e) hin'.os hin'.tape hin'.output hin'.size fun b hb => by
      rcases Nat.lt_or_ge b w.heap.size with h | h
      · exact hheap b h
      · exact absurd (hin.own_of_ge h) hb
    have hsat2 : Sat K Γ.own s.obs w' := hs.sat.keep (.refl _) (fun b hb => hheap b (hs.sat.lt hb)) (fun b o v hv => by
      rw [cell_of_heap (hheap b (hs.sat.memLt hv))]
      exact hs.sat.mem b o v hv) (fun b ⟨i, ob, g, h3, h4, h5⟩ o => by
      obtain ⟨g', h6, h7, _⟩ := hs.sat.ob i ob h3
      rw [h4] at h6
      cases h6
      exact (h7 b h5).2 o)
    exact hK K v d w' hin2 (.refl _) rfl (by rw [if_pos hsc]; exact hsat2) (hr.scalar hsc) hpost
  · have hmemk : K.mem.le k'.mem := hmem1.trans hin'.le.mem
    have hleK : K.le ⟨k'.mem, K.hdr⟩ := ⟨hmemk, fun _ _ h => h⟩
    have hnew : ∀ b o v, k'.mem b o = some v → K.mem b o = some v ∨ Lent K L b ∨ w.heap.size ≤ b := fun b o v hv => by
      rcases hin'.memNew b o v hv with h | h
      · simp only [lentMem] at h
        split at h
        · rename_i hl; exact .inr (.inl hl)
        · exact .inl h
      · exact .inr (.inr h)
    have hin2 : In Γ ⟨k'.mem, K.hdr⟩ w' := hin.step hleK (fun b o v e => (hnew b o v e).imp id fun h => h.elim (fun h => (hlentOwn b h).1) fun h => hin.own_of_ge h) hin'.os hin'.tape hin'.output hin'.size fun b hb => by
      rcases Nat.lt_or_ge b w.heap.size with h | h
      · exact hheap b h
      · exact absurd (hin.own_of_ge h) hb
    have hd := Sat.delAll L hs.sat
    have hsat2 : Sat ⟨k'.mem, K.hdr⟩ Γ.own (delAll s.obs L) w' := hd.keep hleK (fun b hb => hheap b (hd.lt hb)) (fun b o v hv => hsat'.mem b o v hv) (fun b ⟨i, ob, g, h3, h4, h5⟩ o => by
      cases hm : k'.mem b o with
      | none => rfl
      | some v =>
        exfalso
        rw [getK_delAll] at h3
        split at h3
        · cases h3
        · rename_i hiL
          obtain ⟨g', h6, h7, _⟩ := hs.sat.ob i ob h3
          rw [show K.hdr i = some g from h4] at h6
          cases h6
          rcases hnew b o v hm with h | ⟨j, hj, c, hh⟩ | h
          · rw [(h7 b h5).2 o] at h; cases h
          · obtain ⟨oj, hoj⟩ := hLo j hj
            exact hs.sat.apart j i oj ob _ g b hoj h3 (fun e => hiL (e ▸ hj)) hh h4 rfl h5
          · exact absurd (hs.sat.lt ⟨i, ob, g, h3, h4, h5⟩) (by omega))
    have hfin : Rep ⟨k'.mem, K.hdr⟩ d v := Rep.pure (k := k') (k' := ⟨k'.mem, K.hdr⟩) (fun _ _ _ e => e) hr hpure
    exact hK _ v d w' hin2 hleK rfl (by rw [if_neg hsc]; exact hsat2) hfin hpost

/-- A call by value. -/
theorem Eff.callFun {P Γ s k} {fop : Operand} {args : Array Operand} {ts : Array TypeId} {ty : TypeId} {f caps dst pos after} {ds : List D} {L : List Nat} {post : D → Prop}
    (hf : calleeOf (opd s fop) = some (f, caps)) (hc : callable P f = true) (hds : argsV s (args.toList.map (opd s) ++ caps) = some (ds, L)) (hret : Fun P f ds post) (hp : putOK dst s)
    (hk : ∀ d, post d → k (({ s with obs := if scalarD d then s.obs else delAll s.obs L } : St).put dst d)) :
    Eff P Γ { dst, op := .call { callee := .value fop, args, argTypes := ts }, type := ty, pos, after, guard := none } s k := by
  intro K a w hin hs Kont Q hK
  refine callFun_core hf hc hds hret hin hs fun K' v d w' h1 h2 h3 h4 h5 h6 => ?_
  have hsim : Sim K' Γ.own ({ s with obs := if scalarD d then s.obs else delAll s.obs L } : St) a w' := ⟨h4, hs.defers, hs.size, fun x d hx => ⟨(hs.env x d hx).1, (hs.env x d hx).2.mono h2⟩, fun i hi => by rw [h3]; exact hs.hdr i hi⟩
  exact hK K' _ w' _ h1 (hsim.put (by cases dst <;> simp_all [putOK]) h5) (hk d h6)

end Go.VL
