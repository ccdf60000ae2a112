/- The calculus of values: operations that make or change objects of the call's own. -/
import Derived.Test.YtblmompdcammeaaVLf
set_option linter.all false
namespace Go.VL
open Go

def putOK (dst : Option Tmp) (s : St) : Prop := match dst with | some x => x < s.n | none => True

theorem getK_cons {α : Type} (k : Nat) (d : α) (l : List (Nat × α)) (x : Nat) : getK ((k, d) :: l) x = if x = k then some d else getK l x := rfl

theorem Sim.put {k own s a w d v dst} (h : Sim k own s a w) (hp : putOK dst s) (hr : Rep k d v) : Sim k own (s.put dst d) (a.put dst v) w := by
  cases dst with
  | none => exact h
  | some x =>
    have hx : x < s.n := hp
    refine ⟨h.sat, h.defers, by simp [Act.put, St.put, h.size], fun y e hy => ?_, h.hdr⟩
    simp only [St.put, getK_cons] at hy
    by_cases hxy : y = x
    · subst hxy
      simp at hy
      subst hy
      exact ⟨hx, by simpa [Act.put, h.size, hx] using hr⟩
    · rw [if_neg hxy] at hy
      obtain ⟨h1, h2⟩ := h.env y e hy
      refine ⟨h1, ?_⟩
      simpa [Act.put, Array.getElem?_setIfInBounds_ne (Ne.symm hxy)] using h2

/-- The operation goes through, and what follows is one of the states that k admits. -/
def Eff (P : Program) (Γ : Ctx) (o : Oper) (s : St) (k : St → Prop) : Prop :=
  ∀ K a w, In Γ K w → Sim K Γ.own s a w → ∀ (Kont : Act → World → Prop) (Q : Exit → Act → World → Prop),
    (∀ K' a' w' s', In Γ K' w' → Sim K' Γ.own s' a' w' → k s' → Kont a' w') → o.wp P a w Kont Q

theorem Eff.pure {P Γ o s k} (h : evPure P s o.op fun d => putOK o.dst s ∧ k (s.put o.dst d)) : Eff P Γ o s k := by
  intro K a w hin hs Kont Q hK
  obtain ⟨d, ⟨hp, hk⟩, v, hv, hr⟩ := evPure_ok h K Γ.own a w hs
  unfold Oper.wp
  rw [hv]
  exact hK K _ w _ hin (hs.put hp hr) hk

/-- The blocks in which objects lie. -/
def Blk (k : Kr) (obs : List (Nat × Ob)) (b : Nat) : Prop := ∃ i ob h, getK obs i = some ob ∧ k.hdr i = some h ∧ h.1 = some b

theorem ownsRow_lt {w : World} {b e sz n xs v} (h : w.ownsRow b e sz v n xs) {g} (hg : v.ownBlock = some g) : g < w.heap.size := (h.lt g hg).2

theorem Sat.lt {k own obs w} (h : Sat k own obs w) {b} (hb : Blk k obs b) : b < w.heap.size := by
  obtain ⟨i, ob, g, h1, h2, h3⟩ := hb
  obtain ⟨g', h4, h5, h6⟩ := h.ob i ob h1
  rw [h2] at h4
  cases h4
  cases ob with
  | box cells =>
    obtain ⟨b', vs, t, e, h7, _⟩ := h6
    rw [h3] at e
    cases e
    exact (Array.getElem?_eq_some_iff.1 h7).1
  | vec e sz rows =>
    obtain ⟨xs, h7, _⟩ := h6
    exact ownsRow_lt h7 (by simp [headVal, h3, Value.ownBlock])

theorem Sat.memLt {k own obs w} (h : Sat k own obs w) {b o v} (hm : k.mem b o = some v) : b < w.heap.size := by
  have := h.mem b o v hm
  exact World.block_lt_of_cell? w ⟨b, o, none⟩ this

theorem cell_of_heap {w w' : World} {b : Nat} (h : w'.heap[b]? = w.heap[b]?) (o : Nat) : w'.cell? ⟨b, o, none⟩ = w.cell? ⟨b, o, none⟩ := by
  simp [World.cell?, h]

/-- Another world in which the objects lie as they lay. -/
theorem Sat.keep {k k' own obs w w'} (h : Sat k own obs w) (hk : k.le k') (hb : ∀ b, Blk k obs b → w'.heap[b]? = w.heap[b]?)
    (hm : ∀ b o v, k'.mem b o = some v → w'.cell? ⟨b, o, none⟩ = some v) (hn : ∀ b, Blk k obs b → ∀ o, k'.mem b o = none) : Sat k' own obs w' := by
  refine ⟨hm, fun i ob hi => ?_, fun i j x y g g' b hx hy hij hg hg' hb' => ?_⟩
  · obtain ⟨g, h1, h2, h3⟩ := h.ob i ob hi
    exact ⟨g, hk.hdr _ _ h1, fun b e => ⟨(h2 b e).1, hn b ⟨i, ob, g, hi, h1, e⟩⟩, h3.keep hk fun b e => hb b ⟨i, ob, g, hi, h1, e⟩⟩
  · obtain ⟨g1, h1, _⟩ := h.ob i x hx
    obtain ⟨g2, h2, _⟩ := h.ob j y hy
    have e1 := hk.hdr _ _ h1
    have e2 := hk.hdr _ _ h2
    rw [hg] at e1
    rw [hg'] at e2
    cases e1
    cases e2
    exact h.apart i j x y g g' b hx hy hij h1 h2 hb'

/-- One object changes in place. -/
theorem Sat.set {k own obs w w' i ob ob' h} (hs : Sat k own obs w) (hi : getK obs i = some ob) (hh : k.hdr i = some h)
    (hb : ∀ b, h.1 ≠ some b → w'.heap[b]? = w.heap[b]?) (ho : ObAt k w' h ob') : Sat k own ((i, ob') :: obs) w' := by
  have hh' := hs.ob i ob hi
  obtain ⟨h2, h1, hno, _⟩ := hh'
  rw [hh] at h1
  cases h1
  refine ⟨fun b o v hm => ?_, fun j oj hj => ?_, fun x y ox oy g g' b hx hy hxy hg hg' hb' => ?_⟩
  · rw [cell_of_heap (hb b (fun e => by have := (hno b e).2 o; rw [hm] at this; cases this))]
    exact hs.mem b o v hm
  · rw [getK_cons] at hj
    by_cases hji : j = i
    · subst hji
      simp at hj
      subst hj
      exact ⟨h, hh, hno, ho⟩
    · rw [if_neg hji] at hj
      obtain ⟨g, h3, h4, h5⟩ := hs.ob j oj hj
      refine ⟨g, h3, h4, h5.keep (.refl k) fun b e => hb b fun e' => ?_⟩
      exact hs.apart i j ob oj h g b hi hj (Ne.symm hji) hh h3 e' e
  · rw [getK_cons] at hx hy
    have fx : ∃ o, getK obs x = some o := by
      by_cases e : x = i
      · subst e; exact ⟨_, hi⟩
      · rw [if_neg e] at hx; exact ⟨_, hx⟩
    have fy : ∃ o, getK obs y = some o := by
      by_cases e : y = i
      · subst e; exact ⟨_, hi⟩
      · rw [if_neg e] at hy; exact ⟨_, hy⟩
    obtain ⟨px, fx⟩ := fx
    obtain ⟨py, fy⟩ := fy
    exact hs.apart x y px py g g' b fx fy hxy hg hg' hb'

def del {α : Type} (obs : List (Nat × α)) (i : Nat) : List (Nat × α) := obs.filter fun p => !(p.1 == i)
theorem getK_del {α : Type} (obs : List (Nat × α)) (i j : Nat) : getK (del obs i) j = if j = i then none else getK obs j := by
  induction obs with
  | nil => simp [del, getK]
  | cons p l ih =>
    obtain ⟨k, d⟩ := p
    unfold del at ih ⊢
    by_cases hk : k = i
    · subst hk
      simp only [List.filter_cons, beq_self_eq_true, Bool.not_true, Bool.false_eq_true, if_false, ih, getK_cons]
      by_cases hj : j = k <;> simp [hj]
    · have : (!(k == i)) = true := by simp [hk]
      rw [List.filter_cons, if_pos this, getK_cons, getK_cons, ih]
      by_cases hj : j = k
      · subst hj; simp [hk]
      · simp [hj]
theorem Sat.del {k own obs w} (h : Sat k own obs w) (i : Nat) : Sat k own (del obs i) w := by
  have e : ∀ j o, getK (VL.del obs i) j = some o → getK obs j = some o := fun j o hj => by
    rw [getK_del] at hj
    split at hj
    · cases hj
    · exact hj
  exact ⟨h.mem, fun j o hj => h.ob j o (e j o hj), fun x y ox oy g g' b hx hy => h.apart x y ox oy g g' b (e _ _ hx) (e _ _ hy)⟩

/-- The knowledge with one object more. -/
def Kr.add (k : Kr) (i : Nat) (h : Option Nat × Nat) : Kr := { k with hdr := fun j => if j = i then some h else k.hdr j }
theorem Kr.le_add {k : Kr} {i h} (hi : k.hdr i = none) : k.le (k.add i h) := by
  refine ⟨.refl _, fun j g hj => ?_⟩
  simp only [Kr.add]
  rw [if_neg (fun e => by subst e; rw [hi] at hj; cases hj)]
  exact hj

/-- One object more; the others lie as they lay. -/
theorem Sat.add {k own obs w w' i ob h} (hs : Sat k own obs w) (hi : k.hdr i = none) (hown : ∀ b, h.1 = some b → own b ∧ (∀ o, k.mem b o = none) ∧ ¬ Blk k obs b)
    (hb : ∀ b, (Blk k obs b ∨ ∃ o v, k.mem b o = some v) → w'.heap[b]? = w.heap[b]?) (ho : ObAt (k.add i h) w' h ob) : Sat (k.add i h) own ((i, ob) :: obs) w' := by
  have hle := Kr.le_add (h := h) hi
  have hne : ∀ j o, getK obs j = some o → j ≠ i := fun j o hj e => by
    subst e
    obtain ⟨g, h1, _⟩ := hs.ob _ o hj
    rw [hi] at h1
    cases h1
  refine ⟨fun b o v hm => ?_, fun j oj hj => ?_, fun x y ox oy g g' b hx hy hxy hg hg' hb' => ?_⟩
  · have hm' : k.mem b o = some v := hm
    rw [cell_of_heap (hb b (.inr ⟨o, v, hm'⟩))]
    exact hs.mem b o v hm'
  · rw [getK_cons] at hj
    by_cases hji : j = i
    · subst hji
      simp at hj
      subst hj
      exact ⟨h, by simp [Kr.add], fun b e => ⟨(hown b e).1, (hown b e).2.1⟩, ho⟩
    · rw [if_neg hji] at hj
      obtain ⟨g, h3, h4, h5⟩ := hs.ob j oj hj
      refine ⟨g, hle.hdr _ _ h3, h4, h5.keep hle fun b e => hb b (.inl ⟨j, oj, g, hj, h3, e⟩)⟩
  · rw [getK_cons] at hx hy
    simp only [Kr.add] at hg hg'
    by_cases ex : x = i
    · subst ex
      have ey : y ≠ x := Ne.symm hxy
      rw [if_neg ey] at hy
      rw [if_pos rfl] at hg
      rw [if_neg ey] at hg'
      cases hg
      exact fun e => (hown b hb').2.2 ⟨y, oy, g', hy, hg', e⟩
    · rw [if_neg ex] at hx hg
      by_cases ey : y = i
      · subst ey
        rw [if_pos rfl] at hg'
        cases hg'
        exact fun e => (hown b e).2.2 ⟨x, ox, g, hx, hg, hb'⟩
      · rw [if_neg ey] at hy hg'
        exact hs.apart x y ox oy g g' b hx hy hxy hg hg' hb'

theorem In.step {Γ k k' w w'} (h : In Γ k w) (hm : k.le k') (hn : ∀ b o v, k'.mem b o = some v → k.mem b o = some v ∨ Γ.own b)
    (h1 : w'.os = w.os) (h2 : w'.tape = w.tape) (h3 : w'.output = w.output) (h4 : w.heap.size ≤ w'.heap.size) (h5 : ∀ b, ¬ Γ.own b → w'.heap[b]? = w.heap[b]?) : In Γ k' w' :=
  ⟨h.le.trans hm, h.none0, fun b o v e => (hn b o v e).elim (h.memNew b o v) .inr, h.fresh, h1.trans h.os, h2.trans h.tape, h3.trans h.output, Nat.le_trans h.size h4, fun b hb => (h5 b hb).trans (h.block b hb)⟩
theorem In.own_of_ge {Γ k w} (h : In Γ k w) {b} (hb : w.heap.size ≤ b) : Γ.own b := h.fresh b (Nat.le_trans h.size hb)

/-- A state with one object more. -/
def St.add (s : St) (ob : Ob) : St := { s with obs := (s.next, ob) :: s.obs, next := s.next + 1 }

theorem heap_alloc_lt (w : World) (o : Obj) {b : Nat} (h : b < w.heap.size) : (w.alloc o).heap[b]? = w.heap[b]? := by
  show (w.heap.push o)[b]? = _
  rw [Array.getElem?_push, if_neg (by omega)]

/-- A new block, told as a new object. -/
theorem Sim.alloc {Γ : Ctx} {k s a w} (hin : In Γ k w) (hs : Sim k Γ.own s a w) (o : Obj) (c : Nat) (ob : Ob)
    (ho : ObAt (k.add s.next (some w.heap.size, c)) (w.alloc o) (some w.heap.size, c) ob) :
    In Γ (k.add s.next (some w.heap.size, c)) (w.alloc o) ∧ Sim (k.add s.next (some w.heap.size, c)) Γ.own (s.add ob) a (w.alloc o) := by
  have hn := hs.hdr s.next (Nat.le_refl _)
  have hle := Kr.le_add (h := (some w.heap.size, c)) hn
  refine ⟨hin.step hle (fun b o v e => .inl e) rfl rfl rfl (by simp) (fun b hb => ?_), ?_, hs.defers, hs.size, fun x d hx => ⟨(hs.env x d hx).1, (hs.env x d hx).2.mono hle⟩, fun i hi => ?_⟩
  · refine heap_alloc_lt w o ?_
    rcases Nat.lt_or_ge b w.heap.size with h | h
    · exact h
    · exact absurd (hin.own_of_ge h) hb
  · refine hs.sat.add hn (fun b e => ?_) (fun b hb => heap_alloc_lt w o (hb.elim hs.sat.lt fun ⟨_, _, e⟩ => hs.sat.memLt e)) ho
    simp only [Option.some.injEq] at e
    subst e
    refine ⟨hin.own_of_ge (Nat.le_refl _), fun o => ?_, fun hb => absurd (hs.sat.lt hb) (by omega)⟩
    cases hm : k.mem w.heap.size o with
    | none => rfl
    | some v => exact absurd (hs.sat.memLt hm) (by omega)
  · have hi' : s.next + 1 ≤ i := hi
    simp only [Kr.add]
    rw [if_neg (by omega)]
    exact hs.hdr i (by omega)

/-- The zero cells of a type, each of one cell. -/
def zeroC (P : Program) (t : TypeId) : Option (List Value) :=
  match P.info? t with
  | some i => match i.zero with
    | some z => if z.cells.toList.all (·.oneCell') then some z.cells.toList else none
    | none => none
  | none => none
theorem zeroC_some {P : Program} {t z} (h : zeroC P t = some z) : ∃ v, (∀ w, (zeroValue t).run P w = .ok v w) ∧ v.cells = z.toArray ∧ ∀ x ∈ z, x.oneCell' = true := by
  unfold zeroC at h
  split at h
  · rename_i i hi
    split at h
    · rename_i v hz
      split at h
      · rename_i hall
        simp at h
        subst h
        exact ⟨v, fun w => by simp [zeroValue, typeInfo, hi, hz], by simp, fun x hx => (List.all_eq_true.1 hall) x hx⟩
      · cases h
    · cases h
  · cases h

/-- Cells of one cell each stand for values. -/
def ones (cs : List D) : Bool := cs.all isOne

def allocD (P : Program) (t : TypeId) (s : St) (dst : Option Tmp) (k : St → Prop) : Prop :=
  match zeroC P t with
  | some z => putOK dst s ∧ k ((s.add (.box (z.map fun v => .u (uOf v)))).put dst (.ptr s.next 0))
  | none => False
theorem one_uOf {v : Value} (h : v.oneCell' = true) : isOne (.u (uOf v)) = true := by
  unfold uOf
  split <;> simp_all [isOne]
theorem Eff.alloc {P Γ o s k t} (ho : o.op = .alloc t) (h : allocD P t s o.dst k) : Eff P Γ o s k := by
  intro K a w hin hs Kont Q hK
  unfold allocD at h
  split at h
  · rename_i z hz
    obtain ⟨hp, hk⟩ := h
    obtain ⟨v, hv, hc, hone⟩ := zeroC_some hz
    obtain ⟨h1, h2⟩ := Sim.alloc hin hs (.cells v.cells t) 0 (.box (z.map fun v => .u (uOf v))) ⟨w.heap.size, v.cells, t, rfl, heap_alloc_new w _, by simp [hc], fun j d hj => by
      rw [List.getElem?_map] at hj
      cases hx : z[j]? with
      | none => simp [hx] at hj
      | some x =>
        simp [hx] at hj
        subst hj
        have : v.cells.getD j undef = x := by simp [hc, hx]
        rw [this]
        exact ⟨hone x (List.mem_of_getElem? hx), .u _ _ (uOf_rep _ _)⟩⟩
    have hrun : (execOp a.eval o).run P w = .ok (.value (.pointer (some ⟨w.heap.size, 0, none⟩))) (w.alloc (.cells v.cells t)) := by
      obtain ⟨dst, op, type, pos, after, guard⟩ := o
      simp only at ho
      subst ho
      simp [execOp, Instr.alloc, hv, newVar, newRow]
    unfold Oper.wp
    rw [hrun]
    refine hK _ _ _ _ h1 (h2.put (by cases hd : o.dst <;> simp_all [putOK, St.add]) (.ptr _ _ w.heap.size 0 (by simp [Kr.add]))) hk
  · exact h.elim

def boxD (x : D) (s : St) (dst : Option Tmp) (k : St → Prop) : Prop :=
  match cellsD x with
  | some cs => ones cs = true ∧ putOK dst s ∧ k ((s.add (.box cs)).put dst (.ptr s.next 0))
  | none => False
theorem ones_rep {k : Kr} {cs : List D} {vs : Array Value} (h : ones cs = true) (hr : ∀ j c, cs[j]? = some c → Rep k c (vs.getD j undef)) : ∀ j c, cs[j]? = some c → OneRep k c (vs.getD j undef) :=
  fun j c hj => ⟨(isOne_rep ((List.all_eq_true.1 h) c (List.mem_of_getElem? hj)) (hr j c hj)).1, hr j c hj⟩
theorem Eff.box {P Γ o s k t x} (ho : o.op = .box t x) (h : boxD (opd s x) s o.dst k) : Eff P Γ o s k := by
  intro K a w hin hs Kont Q hK
  unfold boxD at h
  split at h
  · rename_i cs hc
    obtain ⟨hone, hp, hk⟩ := h
    have hr := opd_rep hs x
    obtain ⟨h3, h4⟩ := cellsD_rep hc hr
    have hle := Kr.le_add (k := K) (h := (some w.heap.size, 0)) (hs.hdr s.next (Nat.le_refl _))
    obtain ⟨h1, h2⟩ := Sim.alloc hin hs (.cells (a.eval x).cells t) 0 (.box cs) ⟨w.heap.size, (a.eval x).cells, t, rfl, heap_alloc_new w _, h3, fun j d hj =>
      ⟨(ones_rep hone h4 j d hj).1, (h4 j d hj).mono hle⟩⟩
    have hrun : (execOp a.eval o).run P w = .ok (.value (.pointer (some ⟨w.heap.size, 0, none⟩))) (w.alloc (.cells (a.eval x).cells t)) := by
      obtain ⟨dst, op, type, pos, after, guard⟩ := o
      simp only at ho
      subst ho
      simp [execOp, Instr.box, newVar, newRow]
    unfold Oper.wp
    rw [hrun]
    refine hK _ _ _ _ h1 (h2.put (by cases hd : o.dst <;> simp_all [putOK, St.add]) (.ptr _ _ w.heap.size 0 (by simp [Kr.add]))) hk
  · exact h.elim

end Go.VL
