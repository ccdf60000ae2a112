/- The calculus of values: every operation that leaves the memory as it is, under one name. -/
import Derived.Test.YtblmompdcammeaaVLe
set_option linter.all false
namespace Go.VL
open Go

def pickD (t : Bool) (a b : D) : D :=
  match a, b with
  | .u (.bool x), .u (.bool y) => .u (.bool (if t then x else y))
  | a, b => if t then a else b
theorem pickD_rep {k : Kr} {t a b va vb} (ha : Rep k a va) (hb : Rep k b vb) : Rep k (pickD t a b) (if t then va else vb) := by
  unfold pickD
  split
  · obtain rfl := rep_bool ha; obtain rfl := rep_bool hb
    cases t <;> exact .u _ _ (.bool _)
  · cases t <;> simpa

def convD (P : Program) (src dst : TypeId) (x : D) (ret : D → Prop) : Prop :=
  match x with
  | .u (.int _ n) => (P.underlying src).isSome = true ∧ match intOfT P dst with | some k => arith k n (ret <| .u ·) | none => False
  | .u (.str l) => (P.underlying src).isSome = true ∧ isStr P dst = true ∧ ret (.u (.str l))
  | _ => False
theorem intOfT_some {P : Program} {t k} (h : intOfT P t = some k) : P.underlying t = some (.int k) := by
  unfold intOfT at h
  split at h
  · simp at h; subst h; assumption
  · cases h
theorem convD_run {P : Program} {k : Kr} {src dst x ret v} (h : convD P src dst x ret) (w : World) (hx : Rep k x v) :
    ∃ d, ret d ∧ ∃ u, (convert src dst v).run P w = .ok u w ∧ Rep k d u := by
  unfold convD at h
  split at h
  · obtain ⟨hs, h⟩ := h
    obtain ⟨ts, hs⟩ := Option.isSome_iff_exists.1 hs
    obtain rfl := rep_int hx
    split at h
    · rename_i kd hk
      exact ⟨_, arith_ok h, _, by simp [convert, run_underlying hs, run_underlying (intOfT_some hk), Conv.intToInt], .u _ _ (.int _ _)⟩
    · exact h.elim
  · obtain ⟨hs, hd, h⟩ := h
    obtain ⟨ts, hs⟩ := Option.isSome_iff_exists.1 hs
    obtain rfl := rep_str hx
    exact ⟨_, h, _, by simp [convert, run_underlying hs, run_underlying (isStr_some hd)], .u _ _ (.str _)⟩
  · exact h.elim

def nilCheckD (x : D) (ret : D → Prop) : Prop :=
  match x with
  | .u (.row _ _) | .ptr _ _ | .elt _ _ _ _ => ret x
  | .fnc (.func _) _ => ret x
  | _ => False

def notArr (P : Program) (t : TypeId) : Bool := match P.underlying t with | some (.array _ _) | none => false | _ => true

/-- An operation that leaves the memory as it is: what it hands out. -/
def evPure (P : Program) (s : St) (op : Op) (ret : D → Prop) : Prop :=
  match op with
  | .move x => ret (opd s x)
  | .assign x => ret (opd s x)
  | .pick c a b => match opd s c with | .u (.bool t) => ret (pickD t (opd s a) (opd s b)) | _ => False
  | .load t x => loadD P s t (opd s x) ret
  | .binOp op t x y _ => binD P op t (opd s x) (opd s y) ret
  | .unOp op _ x => unD op (opd s x) ret
  | .convert src dst x => convD P src dst (opd s x) ret
  | .fieldAddr t x f => fieldAddrD P t (opd s x) f ret
  | .field t x f => fieldD P t (opd s x) f ret
  | .indexAddr t x i => indexAddrD P s t (opd s x) (opd s i) ret
  | .index t x i => indexD P t (opd s x) (opd s i) ret
  | .slice t x lo hi none => notArr P t = true ∧ sliceD P s t (opd s x) (lo.map (opd s)) (hi.map (opd s)) ret
  | .extract x i => match opd s x with | .tup vs => ∃ d, vs[i]? = some d ∧ ret d | _ => False
  | .nilCheck x => nilCheckD (opd s x) ret
  | .makeFunc f first caps => first = #[] ∧ ret (.fnc f (caps.toList.map (opd s)))
  | .build t parts => buildD P t (parts.toList.map fun p => (p.1, opd s p.2)) ret
  | .call c => match c.callee with
    | .builtin .len => match c.args, c.argTypes with | ⟨[x]⟩, ⟨[t]⟩ => lenD P s t (opd s x) ret | _, _ => False
    | .builtin .min => minmaxD false (c.args.toList.map (opd s)) ret
    | .builtin .max => minmaxD true (c.args.toList.map (opd s)) ret
    | _ => False
  | _ => False

/-- This operation hands out such a value, whatever the memory. -/
def Pure1 (P : Program) (o : Oper) (s : St) (ret : D → Prop) : Prop :=
  ∀ k own a w, Sim k own s a w → ∃ d, ret d ∧ ∃ v, (execOp a.eval o).run P w = .ok (.value v) w ∧ Rep k d v

theorem run_v {P : Program} {s : Sem Value} {v w} (h : s.run P w = .ok v w) : (do pure (.value (← s)) : Sem Next).run P w = .ok (.value v) w := by simp [h]

theorem listRep {k own s a w} (h : Sim k own s a w) (xs : List Operand) : ∀ j d, (xs.map (opd s))[j]? = some d → Rep k d ((xs.map a.eval).getD j undef) := by
  intro j d hj
  rw [List.getElem?_map] at hj
  cases hx : xs[j]? with
  | none => simp [hx] at hj
  | some x =>
    simp [hx] at hj
    subst hj
    have : (xs.map a.eval).getD j undef = a.eval x := by simp [hx]
    rw [this]
    exact opd_rep h x

theorem minmax_run {P : Program} {k : Kr} {isMax ds ret} (h : minmaxD isMax ds ret) (w : World) (vs : List Value) (hl : ds.length = vs.length) (hr : ∀ j d, ds[j]? = some d → Rep k d (vs.getD j undef))
    (ts : Array TypeId) (ty : TypeId) : ∃ d, ret d ∧ ∃ u, (if isMax then Builtin.max_ ts ty vs.toArray else Builtin.min_ ts ty vs.toArray).run P w = .ok u w ∧ Rep k d u := by
  unfold minmaxD at h
  split at h
  · rename_i ka x kb y
    obtain ⟨rfl, h⟩ := h
    match vs, hl with
    | [v0, v1], _ =>
      obtain rfl := rep_int (hr 0 _ rfl)
      obtain rfl := rep_int (hr 1 _ rfl)
      refine ⟨_, h, _, ?_, .u _ _ (.int _ _)⟩
      cases isMax <;> simp [Builtin.max_, Builtin.min_, min2_run, max2_run]
  · rename_i ka x kb y kc z
    obtain ⟨rfl, rfl, h⟩ := h
    match vs, hl with
    | [v0, v1, v2], _ =>
      obtain rfl := rep_int (hr 0 _ rfl)
      obtain rfl := rep_int (hr 1 _ rfl)
      obtain rfl := rep_int (hr 2 _ rfl)
      refine ⟨_, h, _, ?_, .u _ _ (.int _ _)⟩
      cases isMax <;> simp [Builtin.max_, Builtin.min_, min2_run, max2_run]
  · exact h.elim

theorem mapArr {α β : Type} (f : α → β) (xs : Array α) : xs.map f = (xs.toList.map f).toArray := by
  obtain ⟨l⟩ := xs
  simp

theorem sliceAt_run {P : Program} {t v lo hi u} (w : World) (hn : notArr P t = true) (h : (Instr.slice t v lo hi none).run P w = .ok u w) : (Instr.sliceAt t v lo hi none).run P w = .ok u w := by
  unfold notArr at hn
  cases hu : P.underlying t with
  | none => simp [hu] at hn
  | some d => cases d <;> simp_all [Instr.sliceAt, run_underlying hu]

theorem evPure_ok {P : Program} {s : St} {o : Oper} {ret : D → Prop} (h : evPure P s o.op ret) : Pure1 P o s ret := by
  intro k own a w hs
  obtain ⟨dst, op, type, pos, after, guard⟩ := o
  simp only at h
  have fin : ∀ {x : Sem Value}, (∃ d, ret d ∧ ∃ u, x.run P w = .ok u w ∧ Rep k d u) → ∃ d, ret d ∧ ∃ v, (do pure (.value (← x)) : Sem Next).run P w = .ok (.value v) w ∧ Rep k d v :=
    fun ⟨d, hd, u, hu, hr⟩ => ⟨d, hd, u, run_v hu, hr⟩
  unfold evPure at h
  split at h
  · rename_i x
    exact ⟨_, h, a.eval x, rfl, opd_rep hs x⟩
  · rename_i x
    exact ⟨_, h, a.eval x, rfl, opd_rep hs x⟩
  · rename_i c x y
    split at h
    · rename_i t ht
      have hc := opd_rep hs c
      rw [ht] at hc
      have hc := rep_bool hc
      refine ⟨_, h, if t then a.eval x else a.eval y, ?_, pickD_rep (opd_rep hs x) (opd_rep hs y)⟩
      simp [execOp, hc, asBool]
    · exact h.elim
  · exact fin (loadD_run h hs (opd_rep hs _))
  · exact fin (binD_run _ _ w h (opd_rep hs _) (opd_rep hs _))
  · exact fin (unD_run w h (opd_rep hs _))
  · exact fin (convD_run h w (opd_rep hs _))
  · exact fin (fieldAddrD_run h w (opd_rep hs _))
  · exact fin (fieldD_run h w (opd_rep hs _))
  · exact fin (indexAddrD_run h hs (opd_rep hs _) (opd_rep hs _))
  · exact fin (indexD_run h w (opd_rep hs _) (opd_rep hs _))
  · rename_i t x lo hi
    obtain ⟨hn, h⟩ := h
    obtain ⟨d, hd, u, hu, hr⟩ := sliceD_run (lv := lo.map a.eval) (hv := hi.map a.eval) h hs (opd_rep hs _)
      (fun d hd => by cases lo <;> simp at hd; subst hd; exact ⟨_, rfl, opd_rep hs _⟩) (fun hd => by cases lo <;> simp_all)
      (fun d hd => by cases hi <;> simp at hd; subst hd; exact ⟨_, rfl, opd_rep hs _⟩) (fun hd => by cases hi <;> simp_all)
    exact ⟨d, hd, u, run_v (sliceAt_run w hn hu), hr⟩
  · rename_i x i
    split at h
    · rename_i vs hx
      obtain ⟨d, hd, h⟩ := h
      have hr := opd_rep hs x
      rw [hx] at hr
      obtain ⟨us, hl, hv, hu⟩ := rep_tup hr
      have hlt := (List.getElem?_eq_some_iff.1 hd).1
      have hget : us.toArray[i]? = some (us.getD i undef) := by simp [show i < us.length by omega]
      refine ⟨d, h, us.getD i undef, ?_, hu i d hd⟩
      simp only [execOp, hv]
      exact run_v (by simp only [Instr.extract, hget]; rfl)
    · exact h.elim
  · rename_i x
    have hr := opd_rep hs x
    generalize opd s x = X at h hr
    unfold nilCheckD at h
    split at h
    · obtain ⟨b, o, hv, _⟩ := rep_row hr
      exact ⟨_, h, a.eval x, by simp [execOp, hv], hr⟩
    · obtain ⟨b, c, _, hv⟩ := rep_ptr hr
      exact ⟨_, h, a.eval x, by simp [execOp, hv], hr⟩
    · obtain ⟨b, c, _, hv⟩ := rep_elt hr
      exact ⟨_, h, a.eval x, by simp [execOp, hv], hr⟩
    · obtain ⟨vs, _, hv, _⟩ := rep_fnc hr
      exact ⟨_, h, a.eval x, by simp [execOp, hv], hr⟩
    · exact h.elim
  · rename_i f first caps
    obtain ⟨rfl, h⟩ := h
    refine ⟨_, h, .func f #[] (caps.toList.map a.eval).toArray, ?_, .fnc f _ _ (by simp) (listRep hs caps.toList)⟩
    simp only [execOp]
    rw [← mapArr]
    exact run_v (by simp [Instr.makeFunc])
  · rename_i t parts
    have := buildD_run h w (parts.toList.map fun p => (p.1, a.eval p.2)) (by simp) (fun j p q hj hq => by
      rw [List.getElem?_map] at hj hq
      cases hp : parts.toList[j]? with
      | none => simp [hp] at hj
      | some x =>
        simp [hp] at hj hq
        subst hj; subst hq
        exact ⟨rfl, opd_rep hs _⟩)
    have e : (parts.map fun (p : Nat × Operand) => (p.1, a.eval p.2)) = (parts.toList.map fun p => (p.1, a.eval p.2)).toArray := mapArr _ _
    obtain ⟨d, hd, u, hu, hr⟩ := this
    refine ⟨d, hd, u, run_v ?_, hr⟩
    have : (parts.map fun (x : Nat × Operand) => match x with | (i, x) => (i, a.eval x)) = (parts.toList.map fun p => (p.1, a.eval p.2)).toArray := e
    rw [this]
    exact hu
  · rename_i c
    obtain ⟨callee, args, argTypes⟩ := c
    simp only at h
    split at h
    · split at h
      · rename_i x t
        obtain ⟨d, hd, u, hu, hr⟩ := lenD_run h hs type (opd_rep hs x)
        exact ⟨d, hd, u, by simp [execOp, resolve, invoke, builtin, hu], hr⟩
      · exact h.elim
    · obtain ⟨d, hd, u, hu, hr⟩ := minmax_run (P := P) h w (args.toList.map a.eval) (by simp) (listRep hs args.toList) argTypes type
      rw [← mapArr] at hu
      simp only [if_true, Bool.false_eq_true, if_false] at hu
      exact ⟨d, hd, u, by simp [execOp, resolve, invoke, builtin, hu], hr⟩
    · obtain ⟨d, hd, u, hu, hr⟩ := minmax_run (P := P) h w (args.toList.map a.eval) (by simp) (listRep hs args.toList) argTypes type
      rw [← mapArr] at hu
      simp only [if_true, Bool.false_eq_true, if_false] at hu
      exact ⟨d, hd, u, by simp [execOp, resolve, invoke, builtin, hu], hr⟩
    · exact h.elim
  · exact h.elim

end Go.VL
