/- The calculus of values: reading, cutting, picking parts; every operation that leaves the memory as it is. -/
import Derived.Test.YtblmompdcammeaaVLb
import Derived.Deep.MidRow
set_option linter.all false
namespace Go.VL
open Go

-- types, told shortly
def tsz (P : Program) (t : TypeId) : Option Nat := (P.info? t).map (·.size)
/-- How a variable of this type is read: none: no such type; some none: one cell; some (some n): n cells. -/
def ldSz (P : Program) (t : TypeId) : Option (Option Nat) :=
  match P.underlying t, P.info? t with
  | some (.struct _), some i | some (.array _ _), some i => some (some i.size)
  | some _, some _ => some none
  | _, _ => none
/-- A slice's element type and its size. -/
def elSz (P : Program) (t : TypeId) : Option (TypeId × Nat) :=
  match P.underlying t with
  | some (.slice e) => (P.info? e).map fun i => (e, i.size)
  | _ => none
/-- A field's place, its size, and how it is read. -/
def fldAt (P : Program) (t : TypeId) (f : Nat) : Option (Nat × Nat × Option Nat) :=
  match P.underlying t with
  | some (.struct fs) => match fs[f]? with
    | some fd => match tsz P fd.type, ldSz P fd.type with
      | some (n + 1), some l => some (fd.offset, n + 1, l)
      | _, _ => none
    | none => none
  | _ => none
def isStr (P : Program) (t : TypeId) : Bool := match P.underlying t with | some .string => true | _ => false
def intOfT (P : Program) (t : TypeId) : Option IntKind := match P.underlying t with | some (.int k) => some k | _ => none

theorem isAgg_some {P : Program} {t n} (h : ldSz P t = some (some n)) (w : World) : (isAgg t).run P w = .ok true w ∧ (sizeOf t).run P w = .ok n w := by
  unfold ldSz at h
  split at h <;> simp at h
  · rename_i i hu hi
    subst h
    exact ⟨by simp [isAgg, run_underlying hu], by simp [sizeOf, typeInfo, hi]⟩
  · rename_i i hu hi
    subst h
    exact ⟨by simp [isAgg, run_underlying hu], by simp [sizeOf, typeInfo, hi]⟩
theorem isAgg_none {P : Program} {t} (h : ldSz P t = some none) (w : World) : (isAgg t).run P w = .ok false w := by
  unfold ldSz at h
  cases hu : P.underlying t with
  | none => simp [hu] at h
  | some d => cases hi : P.info? t <;> cases d <;> simp_all [isAgg, run_underlying hu]

theorem addr_add (b o n : Nat) : (⟨b, o, none⟩ : Addr).add n = ⟨b, o + n, none⟩ := by unfold Addr.add; split <;> simp_all

/-- What is read at a place of these cells. -/
def cellsAt {α : Type} (cells : List α) (off : Nat) (l : Option Nat) (one : α → Prop) (many : List α → Prop) : Prop :=
  match l with
  | none => ∃ u, cells[off]? = some u ∧ one u
  | some n => off + n ≤ cells.length ∧ many ((cells.drop off).take n)

theorem loadVar_one {P : Program} {t} (w : World) (b o : Nat) (v : Value) (h : ldSz P t = some none) (hc : w.cell? ⟨b, o, none⟩ = some v) :
    (loadVar t ⟨b, o, none⟩).run P w = .ok v w := by
  simp [loadVar, isAgg_none h w, hc]
theorem loadVar_many {P : Program} {t n} (w : World) (b o : Nat) (vs : List Value) (h : ldSz P t = some (some n)) (hn : vs.length = n)
    (hc : ∀ j v, vs[j]? = some v → w.cell? ⟨b, o + j, none⟩ = some v) : (loadVar t ⟨b, o, none⟩).run P w = .ok (.agg vs.toArray) w := by
  have hl := run_loadCells_list (P := P) w ⟨b, o, none⟩ vs (fun j v hv => by rw [addr_add]; exact hc j v hv)
  rw [hn] at hl
  simp [loadVar, (isAgg_some h w).1, (isAgg_some h w).2, hl]

/-- All are without an identity. -/
def allU : List D → Option (List U)
  | [] => some []
  | .u x :: l => match allU l with | some r => some (x :: r) | none => none
  | _ :: _ => none
theorem allU_get : ∀ {l : List D} {r : List U}, allU l = some r → r.length = l.length ∧ ∀ (j : Nat) (u : U), r[j]? = some u → l[j]? = some (D.u u)
  | [], r, h => by simp [allU] at h; subst h; simp
  | d :: l, r, h => by
    cases d <;> simp [allU] at h
    rename_i x
    cases hl : allU l with
    | none => simp [hl] at h
    | some q =>
      simp [hl] at h
      subst h
      have := allU_get hl
      refine ⟨by simp [this.1], fun j u hj => ?_⟩
      cases j with
      | zero => simpa using hj
      | succ j => simpa using this.2 j u (by simpa using hj)
def mkAgg (cells : List D) : D := match allU cells with | some r => .u (.agg r) | none => .agg cells
theorem mkAgg_rep {k : Kr} {cells : List D} {vs : List Value} (hl : cells.length = vs.length) (hr : ∀ j d, cells[j]? = some d → Rep k d (vs.getD j undef)) :
    Rep k (mkAgg cells) (.agg vs.toArray) := by
  unfold mkAgg
  split
  · rename_i r h
    obtain ⟨h1, h2⟩ := allU_get h
    refine .u _ _ (.agg _ vs (by omega) fun j u hj => ?_)
    have := hr j _ (h2 j u hj)
    cases this with | u _ _ hh => exact hh
  · exact .agg _ vs hl hr

/-- Reading a variable of type t at a place. -/
def loadD (P : Program) (s : St) (t : TypeId) (x : D) (ret : D → Prop) : Prop :=
  match ldSz P t with
  | none => False
  | some l => match x with
    | .u (.row cells off) => cellsAt cells off l (ret <| .u ·) (ret <| .u <| .agg ·)
    | .ptr i off => match getK s.obs i with
      | some (.box cells) => cellsAt cells off l ret (ret <| mkAgg ·)
      | _ => False
    | .elt i sz idx off => match getK s.obs i with
      | some (.vec _ sz' rows) => sz = sz' ∧ ∃ r, rows[idx]? = some r ∧ cellsAt r off l ret (ret <| mkAgg ·)
      | _ => False
    | _ => False

theorem getD_of {vs : List Value} {j : Nat} (h : j < vs.length) : vs.getD j undef = vs[j] := by simp [h]
theorem get_take_drop {α : Type} (l : List α) (o n j : Nat) (h : j < n) : ((l.drop o).take n)[j]? = l[o + j]? := by
  rw [List.getElem?_take, if_pos h, List.getElem?_drop]

theorem loadD_run {P : Program} {s : St} {t x ret} (h : loadD P s t x ret) {k own a w v} (hs : Sim k own s a w) (hx : Rep k x v) :
    ∃ d, ret d ∧ ∃ u, (Instr.loadAt t v).run P w = .ok u w ∧ Rep k d u := by
  unfold loadD at h
  split at h
  · exact h.elim
  · rename_i l hl
    split at h
    · -- a row that no one writes
      rename_i cells off
      obtain ⟨b, o, rfl, hc⟩ := rep_row hx
      unfold cellsAt at h
      cases l with
      | none =>
        obtain ⟨u, hu, hret⟩ := h
        obtain ⟨y, hy, hr⟩ := hc off u hu
        exact ⟨_, hret, y, by simp [Instr.loadAt, Instr.sureAddr, loadVar_one w b (o + off) y hl (hs.sat.mem _ _ _ hy)], .u _ _ hr⟩
      | some n =>
        obtain ⟨hle, hret⟩ := h
        have hf : ∀ j, j < n → ∃ y, k.mem b (o + (off + j)) = some y ∧ RepU k.mem (cells.getD (off + j) default) y := fun j hj => by
          obtain ⟨y, hy, hr⟩ := hc (off + j) (cells.getD (off + j) default) (by simp [show off + j < cells.length by omega])
          exact ⟨y, hy, hr⟩
        refine ⟨_, hret, .agg ((List.range n).map fun j => (k.mem b (o + (off + j))).getD undef).toArray, ?_, .u _ _ (.agg _ _ (by simp; omega) fun j u hj => ?_)⟩
        · have := loadVar_many w b (o + off) ((List.range n).map fun j => (k.mem b (o + (off + j))).getD undef) hl (by simp) (fun j v hv => by
            have hj : j < n := by
              have := (List.getElem?_eq_some_iff.1 hv).1
              simpa using this
            obtain ⟨y, hy, _⟩ := hf j hj
            simp [hj, hy] at hv
            subst hv
            rw [Nat.add_assoc]
            exact hs.sat.mem _ _ _ hy)
          simp [Instr.loadAt, Instr.sureAddr, this]
        · have hj' : j < n := by
            have := (List.getElem?_eq_some_iff.1 hj).1
            simp at this
            omega
          rw [get_take_drop _ _ _ _ hj'] at hj
          obtain ⟨y, hy, hr⟩ := hf j hj'
          simp [hj', hy]
          rw [List.getD_eq_getElem?_getD, hj] at hr
          exact hr
    · -- a variable of the call's own
      rename_i i off
      obtain ⟨b, c, hh, rfl⟩ := rep_ptr hx
      split at h
      · rename_i cells hg
        obtain ⟨b', c', vs, ty, hh', hown, hheap, hsz, hcells, hno⟩ := (hs.sat.ob i _ hg).box
        rw [hh] at hh'
        simp only [Option.some.injEq, Prod.mk.injEq] at hh'
        obtain ⟨rfl, rfl⟩ := hh'
        have hcell : ∀ j, j < cells.length → w.cell? ⟨b, j, none⟩ = some (vs.getD j undef) := fun j hj => by
          rw [cell_of_row w b j vs ty (0, 0) hheap]
          simp [show j < vs.size by omega]
        unfold cellsAt at h
        cases l with
        | none =>
          obtain ⟨u, hu, hret⟩ := h
          have hlt := (List.getElem?_eq_some_iff.1 hu).1
          exact ⟨_, hret, _, by simp [Instr.loadAt, Instr.sureAddr, loadVar_one w b off _ hl (hcell off hlt)], (hcells off u hu).2⟩
        | some n =>
          obtain ⟨hle, hret⟩ := h
          refine ⟨_, hret, .agg ((List.range n).map fun j => vs.getD (off + j) undef).toArray, ?_, mkAgg_rep (by simp; omega) fun j u hj => ?_⟩
          · have := loadVar_many w b off ((List.range n).map fun j => vs.getD (off + j) undef) hl (by simp) (fun j v hv => by
              have hj : j < n := by
                have := (List.getElem?_eq_some_iff.1 hv).1
                simpa using this
              simp [hj] at hv
              rw [hcell _ (by omega)]
              simpa using hv)
            simp [Instr.loadAt, Instr.sureAddr, this]
          · have hj' : j < n := by
              have := (List.getElem?_eq_some_iff.1 hj).1
              simp at this
              omega
            rw [get_take_drop _ _ _ _ hj'] at hj
            have := (hcells _ u hj).2
            simpa [hj'] using this
      · exact h.elim
    · -- an element of a slice of the call's own
      rename_i i sz idx off
      obtain ⟨b, c, hh, rfl⟩ := rep_elt hx
      split at h
      · rename_i e sz' rows hg
        obtain ⟨rfl, r, hr, h⟩ := h
        obtain ⟨h', xs, hh', hrow, hpos, hlen, hcells, hno⟩ := (hs.sat.ob i _ hg).vec
        rw [hh] at hh'
        simp only [Option.some.injEq] at hh'
        subst hh'
        have hxl := hrow.1
        have hcell : ∀ j u, xs[j]? = some u → w.cell? ⟨b, j, none⟩ = some u := fun j u hj => by
          have := hrow.cells (g := b) (by simp [headVal, Value.ownBlock]) j u hj
          rwa [addr_add, Nat.zero_add] at this
        have hrl := hlen r (List.mem_of_getElem? hr)
        have hidx := (List.getElem?_eq_some_iff.1 hr).1
        have hbound : ∀ j, j < r.length → idx * sz + j < xs.length := fun j hj => by
          rw [hxl]
          have : (idx + 1) * sz ≤ rows.length * sz := Nat.mul_le_mul_right _ hidx
          rw [Nat.add_mul, Nat.one_mul] at this
          omega
        have hcell' : ∀ j, j < r.length → w.cell? ⟨b, idx * sz + j, none⟩ = some (xs.getD (idx * sz + j) undef) := fun j hj => by
          refine hcell _ _ ?_
          simp [hbound j hj]
        unfold cellsAt at h
        cases l with
        | none =>
          obtain ⟨u, hu, hret⟩ := h
          have hlt := (List.getElem?_eq_some_iff.1 hu).1
          exact ⟨_, hret, _, by simp [Instr.loadAt, Instr.sureAddr, loadVar_one w b (idx * sz + off) _ hl (hcell' off hlt)], (hcells idx r hr off u hu).2⟩
        | some n =>
          obtain ⟨hle, hret⟩ := h
          refine ⟨_, hret, .agg ((List.range n).map fun j => xs.getD (idx * sz + (off + j)) undef).toArray, ?_, mkAgg_rep (by simp; omega) fun j u hj => ?_⟩
          · have := loadVar_many w b (idx * sz + off) ((List.range n).map fun j => xs.getD (idx * sz + (off + j)) undef) hl (by simp) (fun j v hv => by
              have hj : j < n := by
                have := (List.getElem?_eq_some_iff.1 hv).1
                simpa using this
              simp [hj] at hv
              rw [Nat.add_assoc, hcell' _ (by omega)]
              simpa using hv)
            simp [Instr.loadAt, Instr.sureAddr, this]
          · have hj' : j < n := by
              have := (List.getElem?_eq_some_iff.1 hj).1
              simp at this
              omega
            rw [get_take_drop _ _ _ _ hj'] at hj
            have := (hcells idx r hr _ u hj).2
            simpa [hj'] using this
      · exact h.elim
    · exact h.elim

end Go.VL
