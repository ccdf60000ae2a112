/- The calculus of values: literals of slices, make, append. -/
import Derived.Test.YtblmompdcammeaaVLh
set_option linter.all false
namespace Go.VL
open Go

/-- A slice's element type, its size in cells and in bytes, its zero cells. -/
def elInf (P : Program) (t : TypeId) : Option (TypeId × Nat × Nat × List Value) :=
  match P.underlying t with
  | some (.slice e) => match P.info? e, zeroC P e with
    | some i, some z => if z.length = i.size ∧ 0 < i.size then some (e, i.size, i.bytes, z) else none
    | _, _ => none
  | _ => none
theorem elInf_some {P : Program} {t e sz by_ z} (h : elInf P t = some (e, sz, by_, z)) :
    P.underlying t = some (.slice e) ∧ (∃ i v, P.info? e = some i ∧ i.size = sz ∧ i.bytes = by_ ∧ i.zero = some v ∧ v.cells = z.toArray) ∧ z.length = sz ∧ 0 < sz ∧ ∀ x ∈ z, x.oneCell' = true := by
  unfold elInf at h
  split at h
  · rename_i e' hu
    split at h
    · rename_i i z' hi hz
      split at h
      · rename_i hc
        simp at h
        obtain ⟨rfl, rfl, rfl, rfl⟩ := h
        obtain ⟨v, hv, hcz, hone⟩ := zeroC_some hz
        refine ⟨hu, ⟨i, v, hi, rfl, rfl, ?_, hcz⟩, hc.1, hc.2, hone⟩
        have := hv default
        cases hzz : i.zero with
        | none => simp [zeroValue, typeInfo, hi, hzz] at this
        | some u => simp [zeroValue, typeInfo, hi, hzz] at this; rw [this]
      · cases h
    · cases h
  · cases h

def chunks {α : Type} (n sz : Nat) (l : List α) : List (List α) := (List.range n).map fun i => (l.drop (i * sz)).take sz

theorem fill_mono {p q : Nat → Option (Nat × Nat)} (h : ∀ i x, p i = some x → q i = some x) : ∀ (parts : List (Nat × Value)) (cs : Array Value) (r : Array Value), Instr.fill p cs parts = some r → Instr.fill q cs parts = some r
  | [], cs, r, hr => hr
  | (i, v) :: rest, cs, r, hr => by
    simp only [Instr.fill] at hr ⊢
    cases hp : p i with
    | none => simp [hp] at hr
    | some x =>
      simp only [hp] at hr
      simp only [h i x hp]
      split at hr
      · cases hr
      · rename_i hc
        rw [if_neg hc]
        exact fill_mono h rest _ r hr

def zcells (n sz : Nat) (z : List Value) : List D := (List.range (n * sz)).map fun j => .u (uOf (z.getD (j % sz) undef))

def buildSliceD (P : Program) (t : TypeId) (len : Nat) (parts : List (Nat × D)) (s : St) (dst : Option Tmp) (k : St → Prop) : Prop :=
  match elInf P t with
  | some (e, sz, _, z) => len * sz ≤ 16777216 ∧ fillD ((List.range len).map fun i => (i * sz, sz)) parts (zcells len sz z) fun cs =>
      ones cs = true ∧ putOK dst s ∧ k ((s.add (.vec e sz (chunks len sz cs))).put dst (.vec s.next len))
  | none => False

theorem St.add_putOK {dst s ob} (h : putOK dst s) : putOK dst (s.add ob) := by cases dst <;> simp_all [putOK, St.add]

/-- A new row of cells is an object. -/
theorem ObAt.newVec {k : Kr} {w' : World} {g c e sz n : Nat} {cs : List D} {vs : Array Value} (hg : w'.heap[g]? = some (.cells vs e (0, 0))) (hnc : n ≤ c) (hcm : c ≤ maxLen) (hvs : vs.size = c * sz) (hsz : 0 < sz)
    (hcs : n * sz ≤ cs.length) (hr : ∀ j d, j < n * sz → cs[j]? = some d → OneRep k d (vs.getD j undef)) : ObAt k w' (some g, c) (.vec e sz (chunks n sz cs)) := by
  have hmul : n * sz ≤ c * sz := Nat.mul_le_mul_right _ hnc
  have hlen : (chunks n sz cs).length = n := by simp [chunks]
  have hget : ∀ i r, (chunks n sz cs)[i]? = some r → i < n ∧ r = (cs.drop (i * sz)).take sz := fun i r hr => by
    have hi : i < n := by have := (List.getElem?_eq_some_iff.1 hr).1; omega
    simp [chunks, hi] at hr
    exact ⟨hi, hr.symm⟩
  have hin : ∀ i j, i < n → j < sz → i * sz + j < n * sz := fun i j hi hj => by
    have : (i + 1) * sz ≤ n * sz := Nat.mul_le_mul_right _ hi
    rw [Nat.add_mul, Nat.one_mul] at this
    omega
  refine ⟨vs.toList.take (n * sz), ⟨by rw [hlen, List.length_take, Array.length_toList, hvs]; omega, .inr ⟨g, c, vs, by simp [headVal], Nat.zero_le _, hg, by omega, hcm, hvs, by rw [hlen]⟩⟩, hsz, fun r hr => ?_, fun i r hi j d hj => ?_⟩
  · obtain ⟨i, hi⟩ := List.getElem?_of_mem hr
    obtain ⟨h1, rfl⟩ := hget i r hi
    have : (i + 1) * sz ≤ n * sz := Nat.mul_le_mul_right _ h1
    rw [Nat.add_mul, Nat.one_mul] at this
    simp; omega
  · obtain ⟨h1, rfl⟩ := hget i r hi
    have hjl : j < sz := by have := (List.getElem?_eq_some_iff.1 hj).1; simp at this; omega
    rw [get_take_drop _ _ _ _ hjl] at hj
    have := hr (i * sz + j) d (hin i j h1 hjl) hj
    have e : (vs.toList.take (n * sz)).getD (i * sz + j) undef = vs.getD (i * sz + j) undef := by
      simp [hin i j h1 hjl, List.getElem?_take]
    rwa [e]

theorem run_headVal {P : Program} {x : Sem Value} {v : Value} {w w' : World} (h : x.run P w = .ok v w') : (do pure (.value (← x)) : Sem Next).run P w = .ok (.value v) w' := by simp [h]

theorem Eff.buildSlice {P Γ o s k t len parts} (ho : o.op = .buildSlice t len parts) (h : buildSliceD P t len (parts.toList.map fun p => (p.1, opd s p.2)) s o.dst k) : Eff P Γ o s k := by
  intro K a w hin hs Kont Q hK
  obtain ⟨dst, op, type, pos, after, guard⟩ := o
  simp only at ho h
  subst ho
  unfold buildSliceD at h
  split at h
  · rename_i e sz by_ z he
    obtain ⟨hbig, h⟩ := h
    obtain ⟨hu, ⟨i, v, hi, hsz, _, hz, hvz⟩, hzl, hpos, hone⟩ := elInf_some he
    subst hsz
    have hzero : RepL K (zcells len i.size z) ((Array.range (len * i.size)).map fun j => v.cells[j % v.cells.size]!) := by
      refine ⟨by simp [zcells], fun j d hj => ?_⟩
      have hj' : j < len * i.size := by have := (List.getElem?_eq_some_iff.1 hj).1; simpa [zcells] using this
      simp [zcells, hj'] at hj
      subst hj
      have hm : j % i.size < z.length := by rw [hzl]; exact Nat.mod_lt _ hpos
      have e1 : (((Array.range (len * i.size)).map fun j => v.cells[j % v.cells.size]!).getD j undef) = z.getD (j % i.size) undef := by
        simp [hj', hvz, hzl]
        rw [List.getElem?_eq_getElem hm]
        rfl
      rw [e1]
      exact .u _ _ (uOf_rep _ _)
    have hparts : ∀ (j : Nat) (p : Nat × D) (q : Nat × Value), (parts.toList.map fun p => (p.1, opd s p.2))[j]? = some p → (parts.toList.map fun p => (p.1, a.eval p.2))[j]? = some q → q.1 = p.1 ∧ Rep K p.2 q.2 := fun j p q hj hq => by
      rw [List.getElem?_map] at hj hq
      cases hp : parts.toList[j]? with
      | none => simp [hp] at hj
      | some x =>
        simp [hp] at hj hq
        subst hj; subst hq
        exact ⟨rfl, opd_rep hs _⟩
    obtain ⟨cs, vs, ⟨hones, hp, hk⟩, hr, hf⟩ := fillD_run h hzero (by simp) hparts
    have hf' : Instr.fill (fun i' => some (i' * i.size, i.size)) ((Array.range (len * i.size)).map fun j => v.cells[j % v.cells.size]!) (parts.toList.map fun p => (p.1, a.eval p.2)) = some vs :=
      fill_mono (fun j x hx => by
        have hj : j < len := by have := (List.getElem?_eq_some_iff.1 hx).1; simpa using this
        simp [hj] at hx
        rw [← hx]) _ _ _ hf
    have hcl : cs.length = len * i.size := by
      have h1 := hr.1
      have : vs.size = len * i.size := by
        have hsize : ∀ (p : Nat → Option (Nat × Nat)) (l : List (Nat × Value)) (c r : Array Value), Instr.fill p c l = some r → r.size = c.size := by
          intro p l
          induction l with
          | nil => intro c r hr; simp [Instr.fill] at hr; rw [hr]
          | cons x l ih =>
            intro c r hr
            obtain ⟨xi, xv⟩ := x
            simp only [Instr.fill] at hr
            split at hr
            · cases hr
            · split at hr
              · cases hr
              · rw [ih _ _ hr]
                rw [← Array.foldl_toList]
                have : ∀ (ll : List (Value × Nat)) (off : Nat) (c : Array Value), (ll.foldl (fun cs (y : Value × Nat) => cs.setIfInBounds (off + y.2) y.1) c).size = c.size := by
                  intro ll
                  induction ll with
                  | nil => intro off c; rfl
                  | cons y ll ih => intro off c; simp only [List.foldl_cons]; rw [ih]; simp
                exact this _ _ _
        have := hsize _ _ _ _ hf'
        simpa using this
      omega
    have hle := Kr.le_add (k := K) (h := (some w.heap.size, len)) (hs.hdr s.next (Nat.le_refl _))
    have hlen63 : len ≤ maxLen := by
      have : len * 1 ≤ len * i.size := Nat.mul_le_mul_left _ hpos
      unfold maxLen
      omega
    obtain ⟨h1, h2⟩ := Sim.alloc hin hs (.cells vs e) len (.vec e i.size (chunks len i.size cs)) (ObAt.newVec (heap_alloc_new w _) (Nat.le_refl _) hlen63 (by rw [hr.1, hcl]) hpos (by omega)
      fun j d _ hj => ⟨(ones_rep hones hr.2 j d hj).1, (hr.2 j d hj).mono hle⟩)
    have hrun : (execOp a.eval { dst, op := .buildSlice t len parts, type, pos, after, guard }).run P w = .ok (.value (headVal (some w.heap.size, len) len)) (w.alloc (.cells vs e)) := by
      have e1 : (parts.map fun (x : Nat × Operand) => match x with | (i, x) => (i, a.eval x)) = (parts.toList.map fun p => (p.1, a.eval p.2)).toArray := mapArr _ _
      have hb : ¬ (16777216 < len * i.size) := by omega
      simp only [execOp]
      refine run_headVal ?_
      rw [e1]
      by_cases hz0 : len * i.size = 0
      · have hl0 : len = 0 := by
          rcases Nat.mul_eq_zero.1 hz0 with h | h
          · exact h
          · omega
        subst hl0
        have hr0 : Array.range 0 = #[] := rfl
        simp only [Nat.zero_mul, hr0, Array.map_empty] at hf'
        simp [Instr.buildSlice, run_underlying hu, sizeOf, typeInfo, hi, hr0, hf', newRow, headVal]
      · simp [Instr.buildSlice, run_underlying hu, sizeOf, typeInfo, zeroValue, hi, hz, hb, hz0, hf', newRow, headVal]
    unfold Oper.wp
    rw [hrun]
    exact hK _ _ _ _ h1 (h2.put (St.add_putOK hp) (.vec _ _ _ (by simp [Kr.add]))) hk
  · exact h.elim

end Go.VL
