/- The calculus of values: storing, literals of slices, append, make. -/
import Derived.Test.YtblmompdcammeaaVLg
set_option linter.all false
namespace Go.VL
open Go

theorem Sat.congr {k own obs obs' w} (h : Sat k own obs w) (e : ∀ j, getK obs' j = getK obs j) : Sat k own obs' w :=
  ⟨h.mem, fun i ob hi => h.ob i ob (by rw [← e]; exact hi), fun i j x y g g' b hx hy => h.apart i j x y g g' b (by rw [← e]; exact hx) (by rw [← e]; exact hy)⟩

/-- An object replaced where it stands. -/
def setOb : List (Nat × Ob) → Nat → Ob → List (Nat × Ob)
  | [], i, o => [(i, o)]
  | (k, d) :: l, i, o => if i = k then (k, o) :: l else (k, d) :: setOb l i o
theorem getK_setOb : ∀ (l : List (Nat × Ob)) (i : Nat) (o : Ob) (j : Nat), getK (setOb l i o) j = getK ((i, o) :: l) j
  | [], i, o, j => rfl
  | (k, d) :: l, i, o, j => by
    unfold setOb
    by_cases h : i = k
    · subst h
      simp only [if_true, getK_cons]
      by_cases hj : j = i <;> simp [hj]
    · rw [if_neg h]
      simp only [getK_cons, getK_setOb l i o j]
      by_cases hj : j = k
      · subst hj; simp [Ne.symm h]
      · simp [hj]

theorem setAll_get {α : Type} : ∀ (ds cs : List α) (o j : Nat), o + ds.length ≤ cs.length → (setAll cs o ds)[j]? = if o ≤ j ∧ j < o + ds.length then ds[j - o]? else cs[j]?
  | [], cs, o, j, _ => by simp only [setAll, List.length_nil, Nat.add_zero]; rw [if_neg (by omega)]
  | d :: ds, cs, o, j, h => by
    simp only [List.length_cons] at h
    rw [setAll, setAll_get ds (cs.set o d) (o + 1) j (by simp; omega)]
    simp only [List.length_cons]
    by_cases h1 : o + 1 ≤ j ∧ j < o + 1 + ds.length
    · rw [if_pos h1, if_pos (by omega)]
      have : j - o = (j - (o + 1)) + 1 := by omega
      rw [this, List.getElem?_cons_succ]
    · rw [if_neg h1]
      by_cases h2 : j = o
      · subst h2
        rw [if_pos (by omega)]
        simp [show j < cs.length by omega]
      · rw [if_neg (by omega), List.getElem?_set_ne (Ne.symm h2)]

/-- The machine's cells with some of them overwritten. -/
theorem over_get (cur nv : List Value) (o j : Nat) (h : o + nv.length ≤ cur.length) :
    (cur.take o ++ nv ++ cur.drop (o + nv.length))[j]? = if o ≤ j ∧ j < o + nv.length then nv[j - o]? else cur[j]? := by
  by_cases h1 : j < o
  · rw [if_neg (by omega), List.append_assoc, List.getElem?_append_left (by simp; omega), List.getElem?_take, if_pos h1]
  · by_cases h2 : j < o + nv.length
    · rw [if_pos (by omega), List.getElem?_append_left (by simp; omega), List.getElem?_append_right (by simp; omega)]
      congr 1
      simp; omega
    · rw [if_neg (by omega), List.getElem?_append_right (by simp; omega), List.getElem?_drop]
      congr 1
      simp; omega

theorem storeVar_run {P : Program} {t n} (w : World) (b o : Nat) (ty : TypeId) (cur : Array Value) (v : Value) (ht : tsz P t = some n) (hv : v.cells.size = n)
    (hg : w.heap[b]? = some (.cells cur ty (0, 0))) (hle : o + n ≤ cur.size) (h1 : ∀ x ∈ v.cells.toList, x.oneCell' = true) :
    (storeVar t ⟨b, o, none⟩ v).run P w = .ok () (w.setRow b (cur.toList.take o ++ v.cells.toList ++ cur.toList.drop (o + n)).toArray) := by
  have h := run_storeCells_at P b o ty v.cells.toList 0 cur w hg (by simp [hv]; omega) h1
  simp only [Nat.add_zero, Array.length_toList, hv] at h
  simp [storeVar, sizeOf_run ht w, hv, h]

def storeD (P : Program) (t : TypeId) (addr x : D) (s : St) (k : St → Prop) : Prop :=
  match cellsD x with
  | some new => ones new = true ∧ tsz P t = some new.length ∧ match addr with
    | .ptr i off => match getK s.obs i with
      | some (.box cells) => off + new.length ≤ cells.length ∧ k { s with obs := setOb s.obs i (.box (setAll cells off new)) }
      | _ => False
    | .elt i sz idx off => match getK s.obs i with
      | some (.vec e sz' rows) => sz = sz' ∧ ∃ r, rows[idx]? = some r ∧ off + new.length ≤ r.length ∧ k { s with obs := setOb s.obs i (.vec e sz' (rows.set idx (setAll r off new))) }
      | _ => False
    | _ => False
  | none => False

theorem heap_setRow_eq (w : World) (g k : Nat) (cs : Array Value) (h : k ≠ g) : (w.setRow g cs).heap[k]? = w.heap[k]? := setRow_other w g k cs h
theorem setRow_size (w : World) (g : Nat) (cs : Array Value) : (w.setRow g cs).heap.size = w.heap.size := by simp [World.setRow]

theorem In.setRow {Γ k w} (h : In Γ k w) (b : Nat) (hb : Γ.own b) (cs : Array Value) : In Γ k (w.setRow b cs) :=
  h.step (.refl _) (fun _ _ _ e => .inl e) rfl rfl rfl (by rw [setRow_size]; exact Nat.le_refl _) (fun b' hb' => setRow_other w b b' cs (fun e => hb' (e ▸ hb)))

theorem Eff.store {P Γ o s k t x y} (ho : o.op = .store t x y) (hd : o.dst = none) (h : storeD P t (opd s x) (opd s y) s k) : Eff P Γ o s k := by
  intro K a w hin hs Kont Q hK
  unfold storeD at h
  have hrx := opd_rep hs x
  have hry := opd_rep hs y
  obtain ⟨dst, op, type, pos, after, guard⟩ := o
  simp only at ho hd
  subst ho
  subst hd
  split at h
  · rename_i new hc
    obtain ⟨hone, hsz, h⟩ := h
    obtain ⟨hn, hcell⟩ := cellsD_rep hc hry
    have hones := ones_rep hone hcell
    have hone' : ∀ z ∈ (a.eval y).cells.toList, z.oneCell' = true := fun z hz => by
      obtain ⟨j, hj⟩ := List.getElem?_of_mem hz
      have hlt := (List.getElem?_eq_some_iff.1 hj).1
      have hlt' : j < new.length := by simpa [hn] using hlt
      have := (hones j (new[j]) (List.getElem?_eq_getElem hlt')).1
      have e : (a.eval y).cells.getD j undef = z := by
        rw [Array.getElem?_toList] at hj
        simp [hj]
      rwa [e] at this
    have fin : ∀ b off cur ty, w.heap[b]? = some (.cells cur ty (0, 0)) → off + new.length ≤ cur.size → a.eval x = .pointer (some ⟨b, off, none⟩) →
        (execOp a.eval { dst := none, op := .store t x y, type, pos, after, guard }).run P w = .ok .skip (w.setRow b (cur.toList.take off ++ (a.eval y).cells.toList ++ cur.toList.drop (off + new.length)).toArray) :=
      fun b off cur ty hg hle hax => by
        have := storeVar_run w b off ty cur (a.eval y) hsz hn hg hle hone'
        simp [execOp, Instr.storeAt, hax, Instr.sureAddr, this]
    split at h
    · rename_i i off hxi
      rw [hxi] at hrx
      obtain ⟨b, c, hh, hav⟩ := rep_ptr hrx
      split at h
      · rename_i cells hg
        obtain ⟨hle, hk⟩ := h
        obtain ⟨b', c', vs, ty, hh', hown, hheap, hvs, hcs, hno⟩ := (hs.sat.ob i _ hg).box
        rw [hh] at hh'
        simp only [Option.some.injEq, Prod.mk.injEq] at hh'
        obtain ⟨rfl, rfl⟩ := hh'
        have hrun := fin b off vs ty hheap (by omega) hav
        unfold Oper.wp
        rw [hrun]
        refine hK K _ _ _ (hin.setRow b hown _) (?_ : Sim K Γ.own _ (a.put none undef) _) hk
        refine ⟨Sat.congr (Sat.set (h := (some b, c)) hs.sat hg hh (fun b' hb' => setRow_other w b b' _ (fun e => hb' (by rw [e]))) (ob' := .box (setAll cells off new))
          ⟨b, _, ty, rfl, setRow_heap w b vs _ ty _ hheap, ?_, fun j d hj => ?_⟩) (getK_setOb _ _ _), hs.defers, hs.size, hs.env, hs.hdr⟩
        · simp [setAll_length, hn]; omega
        · rw [setAll_get _ _ _ _ (by omega)] at hj
          have e : ((vs.toList.take off ++ (a.eval y).cells.toList ++ vs.toList.drop (off + new.length)).toArray.getD j undef) = ((if off ≤ j ∧ j < off + new.length then (a.eval y).cells.toList[j - off]? else vs.toList[j]?)).getD undef := by
            have := over_get vs.toList (a.eval y).cells.toList off j (by simp [hn]; omega)
            rw [Array.length_toList, hn] at this
            rw [← this]
            simp
          rw [e]
          by_cases hc : off ≤ j ∧ j < off + new.length
          · rw [if_pos hc] at hj ⊢
            have := hones (j - off) d hj
            simpa using this
          · rw [if_neg hc] at hj ⊢
            have := hcs j d hj
            simpa using this
      · exact h.elim
    · rename_i i sz idx off hxi
      rw [hxi] at hrx
      obtain ⟨b, c, hh, hav⟩ := rep_elt hrx
      split at h
      · rename_i e sz' rows hg
        obtain ⟨rfl, r, hr, hle, hk⟩ := h
        obtain ⟨h', xs, hh', hrow, hpos, hlen, hcs, hno⟩ := (hs.sat.ob i _ hg).vec
        rw [hh] at hh'
        simp only [Option.some.injEq] at hh'
        subst hh'
        have hidx := (List.getElem?_eq_some_iff.1 hr).1
        have hrl := hlen r (List.mem_of_getElem? hr)
        have hmul : (idx + 1) * sz ≤ rows.length * sz := Nat.mul_le_mul_right _ hidx
        rw [Nat.add_mul, Nat.one_mul] at hmul
        rcases hrow.2 with ⟨hv, hz⟩ | ⟨g, cap, cur, hv, hb0, hheap, hncap, hcm, hcs', htake⟩
        · omega
        · have hgb : g = b ∧ cap = c := by
            simp [headVal] at hv
            exact ⟨hv.1.symm, hv.2.symm⟩
          obtain ⟨rfl, rfl⟩ := hgb
          have hcapmul : rows.length * sz ≤ cap * sz := Nat.mul_le_mul_right _ hncap
          have hrun := fin g (idx * sz + off) cur e hheap (by omega) hav
          unfold Oper.wp
          rw [hrun]
          refine hK K _ _ _ (hin.setRow g (hno g rfl).1 _) (?_ : Sim K Γ.own _ (a.put none undef) _) hk
          have hxl := hrow.1
          refine ⟨Sat.congr (Sat.set (h := (some g, cap)) hs.sat hg hh (fun b' hb' => setRow_other w g b' _ (fun e => hb' (by rw [e]))) (ob' := .vec e sz (rows.set idx (setAll r off new)))
            ⟨xs.take (idx * sz + off) ++ (a.eval y).cells.toList ++ xs.drop (idx * sz + off + new.length), ⟨?_, .inr ⟨g, cap, _, ?_, Nat.zero_le _, setRow_heap w g cur _ e _ hheap, ?_, hcm, ?_, ?_⟩⟩, hpos, ?_, ?_⟩) (getK_setOb _ _ _), hs.defers, hs.size, hs.env, hs.hdr⟩
          · simp [hn]; omega
          · simp [headVal]
          · simpa using hncap
          · simp [hn]; omega
          · have hcl : cur.toList.length = cap * sz := by simpa using hcs'
            apply List.ext_getElem?
            intro j
            have hl1 : (a.eval y).cells.toList.length = new.length := by simpa using hn
            simp only [List.length_set]
            rw [List.getElem?_take]
            have e1 := over_get xs (a.eval y).cells.toList (idx * sz + off) j (by omega)
            have e2 := over_get cur.toList (a.eval y).cells.toList (idx * sz + off) j (by omega)
            rw [hl1] at e1 e2
            rw [e1, e2]
            by_cases hj : j < rows.length * sz
            · rw [if_pos hj]
              split
              · rfl
              · rw [← htake, List.getElem?_take, if_pos hj]
            · rw [if_neg hj, if_neg (by omega), List.getElem?_eq_none (by omega)]
          · intro r' hr'
            rcases List.mem_or_eq_of_mem_set hr' with hm | rfl
            · exact hlen r' hm
            · rw [setAll_length]; exact hrl
          · intro i' r' hr' j d hj
            have hl1 : (a.eval y).cells.toList.length = new.length := by simpa using hn
            have e1 := over_get xs (a.eval y).cells.toList (idx * sz + off) (i' * sz + j) (by omega)
            rw [hl1] at e1
            rw [List.getD_eq_getElem?_getD, e1]
            rw [List.getElem?_set] at hr'
            by_cases hii : idx = i'
            · subst hii
              rw [if_pos rfl, if_pos hidx] at hr'
              cases hr'
              rw [setAll_get _ _ _ _ hle] at hj
              by_cases hc : off ≤ j ∧ j < off + new.length
              · rw [if_pos hc] at hj
                rw [if_pos (by omega)]
                have := hones (j - off) d hj
                rw [show idx * sz + j - (idx * sz + off) = j - off by omega]
                simpa using this
              · rw [if_neg hc] at hj
                rw [if_neg (by omega), ← List.getD_eq_getElem?_getD]
                exact hcs idx r hr j d hj
            · rw [if_neg hii] at hr'
              have hrl' := hlen r' (List.mem_of_getElem? hr')
              have hjl := (List.getElem?_eq_some_iff.1 hj).1
              rw [if_neg ?_, ← List.getD_eq_getElem?_getD]
              · exact hcs i' r' hr' j d hj
              · intro hc
                rcases Nat.lt_or_gt_of_ne hii with hlt | hgt
                · have : (idx + 1) * sz ≤ i' * sz := Nat.mul_le_mul_right _ hlt
                  rw [Nat.add_mul, Nat.one_mul] at this
                  omega
                · have : (i' + 1) * sz ≤ idx * sz := Nat.mul_le_mul_right _ hgt
                  rw [Nat.add_mul, Nat.one_mul] at this
                  omega
      · exact h.elim
    · exact h.elim
  · exact h.elim

end Go.VL
