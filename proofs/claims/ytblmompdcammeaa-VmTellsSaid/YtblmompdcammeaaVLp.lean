/- The calculus of values: statements whose operations Go may carry out in more than one order. -/
import Derived.Test.YtblmompdcammeaaVLo
import Derived.Orders
set_option linter.all false
namespace Go.VL
open Go

-- what an evaluation hands out does not hang on what is asked of it
def Lin {α : Type} (T : (α → Prop) → Prop) : Prop := (∀ r r' : α → Prop, (∀ d, r d → r' d) → T r → T r') ∧ ∀ r, T r → ∃ d, T (· = d) ∧ r d
theorem Lin.ret {α : Type} (d : α) : Lin fun r : α → Prop => r d := ⟨fun _ _ h => h d, fun _ h => ⟨d, rfl, h⟩⟩
theorem Lin.false_ {α : Type} : Lin fun _ : α → Prop => False := ⟨fun _ _ _ h => h, fun _ h => h.elim⟩
theorem Lin.and {α : Type} {A : Prop} {T : (α → Prop) → Prop} (h : Lin T) : Lin fun r => A ∧ T r :=
  ⟨fun _ _ hr ⟨a, t⟩ => ⟨a, h.1 _ _ hr t⟩, fun _ ⟨a, t⟩ => let ⟨d, h1, h2⟩ := h.2 _ t; ⟨d, ⟨a, h1⟩, h2⟩⟩
theorem Lin.and' {α : Type} {A : Prop} {T : (α → Prop) → Prop} (h : Lin T) : Lin fun r => T r ∧ A :=
  ⟨fun _ _ hr ⟨t, a⟩ => ⟨h.1 _ _ hr t, a⟩, fun _ ⟨t, a⟩ => let ⟨d, h1, h2⟩ := h.2 _ t; ⟨d, ⟨h1, a⟩, h2⟩⟩
theorem Lin.ex {α β : Type} {T : β → (α → Prop) → Prop} (h : ∀ b, Lin (T b)) : Lin fun r => ∃ b, T b r :=
  ⟨fun _ _ hr ⟨b, t⟩ => ⟨b, (h b).1 _ _ hr t⟩, fun _ ⟨b, t⟩ => let ⟨d, h1, h2⟩ := (h b).2 _ t; ⟨d, ⟨b, h1⟩, h2⟩⟩
theorem Lin.map {α β : Type} {T : (α → Prop) → Prop} (h : Lin T) (f : α → β) : Lin fun r : β → Prop => T fun a => r (f a) :=
  ⟨fun _ _ hr t => h.1 _ _ (fun a => hr (f a)) t, fun _ t => let ⟨d, h1, h2⟩ := h.2 _ t; ⟨f d, h.1 _ _ (fun _ e => congrArg f e) h1, h2⟩⟩

theorem Lin.arith {k n} : Lin (arith k n) := by
  unfold VL.arith
  split <;> first | exact (Lin.ret _).and | exact Lin.ret _
theorem Lin.binI {op k a b} : Lin (binI op k a b) := by
  unfold VL.binI
  split <;> first | exact Lin.arith | exact Lin.arith.and | exact (Lin.ret _).and | exact Lin.ret _ | exact Lin.false_
theorem Lin.binS {op a b} : Lin (binS op a b) := by
  unfold VL.binS
  split <;> first | exact (Lin.ret _).and | exact Lin.ret _ | exact Lin.false_
theorem Lin.binB {P op t a b} : Lin (binB P op t a b) := by
  unfold VL.binB
  refine Lin.and ?_
  split <;> first | exact Lin.ret _ | exact Lin.false_
theorem Lin.shiftI {op k a b} : Lin (shiftI op k a b) := by
  unfold VL.shiftI
  refine Lin.and ?_
  split <;> first | exact Lin.arith | exact Lin.ret _ | exact Lin.false_
theorem Lin.nilD {op b} : Lin (nilD op b) := by
  unfold VL.nilD
  split <;> first | exact Lin.ret _ | exact Lin.false_
theorem Lin.aggD {P op t xs ys} : Lin (aggD P op t xs ys) := by
  unfold VL.aggD
  split
  · split
    · exact Lin.nilD
    · exact Lin.false_
  · exact Lin.false_
theorem Lin.binD {P op t x y} : Lin (binD P op t x y) := by
  unfold VL.binD
  split <;> first | exact (Lin.nilD.map _).and | exact Lin.aggD.map _ | exact Lin.shiftI.map _ | exact (Lin.binI.map _).and | exact Lin.binS.map _ | exact Lin.binB.map _ | exact Lin.false_
theorem Lin.unD {op x} : Lin (unD op x) := by
  unfold VL.unD
  split <;> first | exact Lin.arith.map _ | exact Lin.ret _ | exact Lin.false_
theorem Lin.convD {P a b x} : Lin (convD P a b x) := by
  unfold VL.convD
  split
  · refine Lin.and ?_
    split <;> first | exact Lin.arith.map _ | exact Lin.false_
  · exact (Lin.ret _).and.and
  · exact Lin.false_
theorem Lin.cellsAt {α : Type} {cells : List α} {off l} {f : α → D} {g : List α → D} : Lin fun r : D → Prop => cellsAt cells off l (fun a => r (f a)) (fun a => r (g a)) := by
  unfold VL.cellsAt
  split
  · exact Lin.ex fun _ => (Lin.ret _).and
  · exact (Lin.ret _).and
theorem Lin.loadD {P s t x} : Lin (loadD P s t x) := by
  unfold VL.loadD
  split
  · exact Lin.false_
  · split
    · exact Lin.cellsAt (f := fun u => .u u) (g := fun u => .u (.agg u))
    · split
      · exact Lin.cellsAt (f := id) (g := mkAgg)
      · exact Lin.false_
    · split
      · exact Lin.and (Lin.ex fun _ => Lin.and (Lin.cellsAt (f := id) (g := mkAgg)))
      · exact Lin.false_
    · exact Lin.false_
theorem Lin.fieldAddrD {P t x f} : Lin (fieldAddrD P t x f) := by
  unfold VL.fieldAddrD
  split
  · exact Lin.false_
  · split <;> first | exact Lin.ret _ | exact Lin.false_
theorem Lin.fieldD {P t x f} : Lin (fieldD P t x f) := by
  unfold VL.fieldD
  split
  · exact Lin.false_
  · split
    · exact Lin.cellsAt (f := fun u => .u u) (g := fun u => .u (.agg u))
    · exact Lin.cellsAt (f := id) (g := mkAgg)
    · exact Lin.false_
theorem Lin.indexAddrD {P s t x i} : Lin (indexAddrD P s t x i) := by
  unfold VL.indexAddrD
  split
  · split
    · exact Lin.and (Lin.ex fun _ => Lin.and (Lin.and (Lin.ret _)))
    · exact Lin.and (Lin.and (Lin.and' (Lin.ret _)))
    · exact Lin.false_
  · exact Lin.false_
theorem Lin.indexD {P t x i} : Lin (indexD P t x i) := by
  unfold VL.indexD
  split
  · exact Lin.and (Lin.and (Lin.ex fun _ => Lin.and (Lin.ret _)))
  · exact Lin.false_
theorem Lin.cutD {n lo hi} {T : Nat → Nat → (D → Prop) → Prop} (h : ∀ a b, Lin (T a b)) : Lin fun r => cutD n lo hi fun a b => T a b r := by
  unfold VL.cutD
  split <;> first | exact h _ _ | exact (h _ _).and | exact Lin.false_
theorem Lin.sliceD {P s t x lo hi} : Lin (sliceD P s t x lo hi) := by
  unfold VL.sliceD
  split
  · exact Lin.and (Lin.cutD fun a b => Lin.ret _)
  · split
    · exact Lin.and (Lin.cutD fun a b => Lin.ret _)
    · exact Lin.false_
  · split
    · exact Lin.and (Lin.and (Lin.cutD fun a b => Lin.and (Lin.ret _)))
    · exact Lin.false_
  · exact Lin.false_
theorem Lin.lenD {P s t x} : Lin (lenD P s t x) := by
  unfold VL.lenD
  split
  · exact (Lin.ret _).and
  · exact (Lin.ret _).and
  · exact (Lin.ret _).and
  · refine Lin.and ?_
    split <;> first | exact (Lin.ret _).and | exact Lin.false_
  · exact Lin.false_
theorem Lin.minmaxD {b l} : Lin (minmaxD b l) := by
  unfold VL.minmaxD
  split
  · exact (Lin.ret _).and
  · exact (Lin.ret _).and.and
  · exact Lin.false_
theorem Lin.nilCheckD {x} : Lin (nilCheckD x) := by
  unfold VL.nilCheckD
  split <;> first | exact Lin.ret _ | exact Lin.false_
theorem Lin.fillD {places} : ∀ {parts : List (Nat × D)} {cs : List D}, Lin (fillD places parts cs)
  | [], cs => Lin.ret _
  | (f, d) :: rest, cs => by
    rw [show VL.fillD places ((f, d) :: rest) cs = fun k => match places[f]?, cellsD d with
      | some (off, n), some new => new.length = n ∧ off + n ≤ cs.length ∧ VL.fillD places rest (setAll cs off new) k
      | _, _ => False from rfl]
    split
    · exact Lin.and (Lin.and Lin.fillD)
    · exact Lin.false_
theorem Lin.buildD {P t parts} : Lin (buildD P t parts) := by
  unfold VL.buildD
  split
  · exact Lin.fillD.map _
  · exact Lin.false_
theorem Lin.evPure {P s op} : Lin (evPure P s op) := by
  unfold VL.evPure
  split
  · exact Lin.ret _
  · exact Lin.ret _
  · split <;> first | exact Lin.ret _ | exact Lin.false_
  · exact Lin.loadD
  · exact Lin.binD
  · exact Lin.unD
  · exact Lin.convD
  · exact Lin.fieldAddrD
  · exact Lin.fieldD
  · exact Lin.indexAddrD
  · exact Lin.indexD
  · exact Lin.and Lin.sliceD
  · split
    · exact Lin.ex fun _ => (Lin.ret _).and
    · exact Lin.false_
  · exact Lin.nilCheckD
  · exact (Lin.ret _).and
  · exact Lin.buildD
  · split
    · split <;> first | exact Lin.lenD | exact Lin.false_
    · exact Lin.minmaxD
    · exact Lin.minmaxD
    · exact Lin.false_
  · exact Lin.false_

end Go.VL
