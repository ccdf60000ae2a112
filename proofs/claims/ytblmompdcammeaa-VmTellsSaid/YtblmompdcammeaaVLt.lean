/- The calculus of values: what an operation looks at, and changes, of the objects. -/
import Derived.Test.YtblmompdcammeaaVLs
set_option linter.all false
namespace Go.VL
open Go

def D.ids : D → List Nat
  | .ptr i _ => [i]
  | .vec i _ => [i]
  | .elt i _ _ _ => [i]
  | _ => []
/-- An operation that looks at no memory. -/
def freeOp : Op → Bool
  | .move _ | .assign _ | .pick .. | .binOp .. | .unOp .. | .convert .. | .fieldAddr .. | .field .. | .extract .. | .nilCheck .. | .makeFunc .. | .build .. | .index .. => true
  | .call c => match c.callee with | .builtin .min => true | .builtin .max => true | _ => false
  | _ => false
/-- The objects that a call by value borrows. -/
def lentIds (s : St) (f : Operand) (args : List Operand) : List Nat :=
  match calleeOf (opd s f) with
  | some (_, caps) => match argsV s (args.map (opd s) ++ caps) with
    | some (_, l) => l
    | none => []
  | none => []
def callOf : Op → Option (Operand × List Operand)
  | .call c => match c.callee with | .value f => some (f, c.args.toList) | _ => none
  | _ => none
def rdIds (s : St) (op : Op) : List Nat :=
  match callOf op with
  | some (f, args) => lentIds s f args
  | none => if freeOp op then [] else op.operands.toList.flatMap fun x => (opd s x).ids

section
variable {P : Program} {s s' : St}
theorem loadD_loc (t : TypeId) (x : D) (r : D → Prop) (h : ∀ i ∈ x.ids, getK s.obs i = getK s'.obs i) : loadD P s t x r = loadD P s' t x r := by
  unfold loadD
  cases x <;> simp only [D.ids, List.mem_singleton, forall_eq] at h ⊢ <;> (try first | rfl | rw [h] | (rename_i y; cases y <;> first | rfl | (rename_i v; cases v <;> first | rfl | (rename_i a n c; cases n <;> rfl)) | (split <;> rfl)))
theorem indexAddrD_loc (t : TypeId) (x i : D) (r : D → Prop) (h : ∀ i ∈ x.ids, getK s.obs i = getK s'.obs i) : indexAddrD P s t x i r = indexAddrD P s' t x i r := by
  unfold indexAddrD
  cases x <;> simp only [D.ids, List.mem_singleton, forall_eq] at h ⊢ <;> (try first | rfl | rw [h] | (rename_i y; cases y <;> first | rfl | (rename_i v; cases v <;> first | rfl | (rename_i a n c; cases n <;> rfl)) | (split <;> rfl)))
theorem sliceD_loc (t : TypeId) (x : D) (a b : Option D) (r : D → Prop) (h : ∀ i ∈ x.ids, getK s.obs i = getK s'.obs i) : sliceD P s t x a b r = sliceD P s' t x a b r := by
  unfold sliceD
  cases x <;> simp only [D.ids, List.mem_singleton, forall_eq] at h ⊢ <;> (try first | rfl | rw [h] | (rename_i y; cases y <;> first | rfl | (rename_i v; cases v <;> first | rfl | (rename_i a n c; cases n <;> rfl)) | (split <;> rfl)))
theorem lenD_loc (t : TypeId) (x : D) (r : D → Prop) (h : ∀ i ∈ x.ids, getK s.obs i = getK s'.obs i) : lenD P s t x r = lenD P s' t x r := by
  unfold lenD
  cases x <;> simp only [D.ids, List.mem_singleton, forall_eq] at h ⊢ <;> (try first | rfl | rw [h] | (rename_i y; cases y <;> first | rfl | (rename_i v; cases v <;> first | rfl | (rename_i a n c; cases n <;> rfl)) | (split <;> rfl)))
theorem rowsOf_loc (x : D) (h : ∀ i ∈ x.ids, getK s.obs i = getK s'.obs i) : rowsOf s x = rowsOf s' x := by
  unfold rowsOf
  cases x <;> simp only [D.ids, List.mem_singleton, forall_eq] at h ⊢ <;> (try first | rfl | rw [h] | (rename_i y; cases y <;> first | rfl | (rename_i v; cases v <;> first | rfl | (rename_i a n c; cases n <;> rfl)) | (split <;> rfl)))

theorem rd_op {op : Op} {x : Operand} (hc : callOf op = none) (hf : freeOp op = false) (hx : x ∈ op.operands) {i} (hi : i ∈ (opd s x).ids) : i ∈ rdIds s op := by
  unfold rdIds
  rw [hc, hf]
  exact List.mem_flatMap.2 ⟨x, by simpa using hx, hi⟩

theorem evPure_loc {op : Op} {r : D → Prop} (h : ∀ i ∈ rdIds s op, getK s.obs i = getK s'.obs i) (hx : ∀ x ∈ op.operands, opd s x = opd s' x) (hc : callOf op = none) : evPure P s op r = evPure P s' op r := by
  have hl : freeOp op = false → ∀ x ∈ op.operands, ∀ i ∈ (opd s x).ids, getK s.obs i = getK s'.obs i := fun hf x hm i hi => h i (rd_op hc hf hm hi)
  clear hc
  clear h
  cases op <;> simp only [Op.operands] at hx hl <;> unfold evPure <;> (try simp only)
  case move x => rw [hx x (by simp)]
  case assign x => rw [hx x (by simp)]
  case pick c a b => rw [hx c (by simp), hx a (by simp), hx b (by simp)]
  case load t x => rw [loadD_loc t _ r (hl rfl x (by simp)), hx x (by simp)]
  case binOp op t x y _ => rw [hx x (by simp), hx y (by simp)]
  case unOp op _ x => rw [hx x (by simp)]
  case convert a b x => rw [hx x (by simp)]
  case fieldAddr t x f => rw [hx x (by simp)]
  case field t x f => rw [hx x (by simp)]
  case indexAddr t x i => rw [indexAddrD_loc t _ _ r (hl rfl x (by simp)), hx x (by simp), hx i (by simp)]
  case index t x i => rw [hx x (by simp), hx i (by simp)]
  case slice t x lo hi mx =>
    have e1 : lo.map (opd s) = lo.map (opd s') := by cases lo <;> simp_all
    have e2 : hi.map (opd s) = hi.map (opd s') := by cases hi <;> simp_all
    cases mx with
    | none => simp only; rw [sliceD_loc t _ _ _ r (hl rfl x (by simp)), hx x (by simp), e1, e2]
    | some m => rfl
  case extract x i => rw [hx x (by simp)]
  case nilCheck x => rw [hx x (by simp)]
  case makeFunc f first caps =>
    have e : caps.toList.map (opd s) = caps.toList.map (opd s') := List.map_congr_left fun x hm => hx x (by simp; exact .inr (by simpa using hm))
    rw [e]
  case build t parts =>
    have e : (parts.toList.map fun p => (p.1, opd s p.2)) = (parts.toList.map fun p => (p.1, opd s' p.2)) := List.map_congr_left fun p hm => by
      rw [hx p.2 (by simp; exact ⟨p.1, by simpa using hm⟩)]
    rw [e]
  case call c =>
    obtain ⟨callee, args, ts⟩ := c
    cases callee with
    | value f => rfl
    | invoke r m => rfl
    | builtin b =>
      have e : args.toList.map (opd s) = args.toList.map (opd s') := List.map_congr_left fun x hm => hx x (by simp [Call.operands]; simpa using hm)
      cases b <;> simp only <;> try rfl
      case len =>
        obtain ⟨args⟩ := args
        obtain ⟨ts⟩ := ts
        match args, ts with
        | [x], [t] => simp only; rw [lenD_loc t _ r (hl rfl x (by simp [Call.operands])), hx x (by simp [Call.operands])]
        | [], _ => rfl
        | _ :: _ :: _, _ => rfl
        | [_], [] => rfl
        | [_], _ :: _ :: _ => rfl
      case min => rw [e]
      case max => rw [e]
theorem valD_loc {op : Op} {r : D → Prop} (h : ∀ i ∈ rdIds s op, getK s.obs i = getK s'.obs i) (hx : ∀ x ∈ op.operands, opd s x = opd s' x) (hv : valD P s op r) : valD P s' op r := by
  unfold valD at hv ⊢
  split at hv
  · rename_i c
    obtain ⟨callee, args, ts⟩ := c
    simp only at hv ⊢
    split at hv
    · rename_i f
      have e : args.toList.map (opd s) = args.toList.map (opd s') := List.map_congr_left fun x hm => hx x (by simp [Op.operands, Call.operands]; exact .inr (by simpa using hm))
      have ef : opd s f = opd s' f := hx f (by simp [Op.operands, Call.operands])
      obtain ⟨d, ⟨g, caps, ds, L, h1, h2, h3, h4⟩, hr⟩ := hv
      have hL : ∀ i ∈ L, getK s.obs i = getK s'.obs i := fun i hi => h i (by
        show i ∈ lentIds s f args.toList
        unfold lentIds
        simp only [h1, h3]
        exact hi)
      refine ⟨d, ⟨g, caps, ds, L, by rw [← ef]; exact h1, h2, ?_, h4⟩, hr⟩
      rw [← e]
      exact argsW_loc h3 hL
    · rename_i hcal
      rw [← evPure_loc (s := s) h hx ?_]
      · exact hv
      · cases callee <;> first | rfl | exact absurd rfl (hcal _)
  · rename_i hcal
    rw [← evPure_loc (s := s) h hx ?_]
    · exact hv
    · cases op <;> first | rfl | exact absurd rfl (hcal _)
end
end Go.VL
