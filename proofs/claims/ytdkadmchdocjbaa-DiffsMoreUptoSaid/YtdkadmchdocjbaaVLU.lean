/- Calculus: families: objects of the call's own in a row, as many as a list has; a slice of slices of the call's own. -/
import Derived.Test.YtdkadmchdocjbaaVLT
set_option linter.all false
set_option maxRecDepth 100000
set_option maxHeartbeats 8000000
namespace Go.VL
open Go
def fam (b : Nat) : List Ob → List (Nat × Ob)
  | [] => []
  | o :: l => (b, o) :: fam (b + 1) l
theorem getK_fam : ∀ (b : Nat) (l : List Ob) (j : Nat), getK (fam b l) j = if b ≤ j then l[j - b]? else none
  | b, [], j => by simp [fam, getK]
  | b, o :: l, j => by
    rw [fam, getK_cons, getK_fam (b + 1) l j]
    by_cases h : j = b
    · subst h; simp
    · rw [if_neg h]
      by_cases h2 : b ≤ j
      · rw [if_pos (show b + 1 ≤ j by omega), if_pos h2, show j - b = (j - (b + 1)) + 1 by omega, List.getElem?_cons_succ]
      · rw [if_neg (by omega), if_neg h2]
theorem getK_fam_add (b : Nat) (l : List Ob) (i : Nat) : getK (fam b l) (i + b) = l[i]? := by rw [getK_fam, if_pos (by omega), Nat.add_sub_cancel]
theorem setOb_fam : ∀ (b : Nat) (l : List Ob) (i : Nat) (o : Ob), i < l.length → setOb (fam b l) (i + b) o = fam b (l.set i o)
  | b, [], i, o, h => by simp at h
  | b, p :: l, 0, o, h => by simp [fam, setOb]
  | b, p :: l, i + 1, o, h => by
    rw [fam, setOb, if_neg (by omega), List.set_cons_succ, fam, show i + 1 + b = i + (b + 1) by omega, setOb_fam (b + 1) l i o (by simpa using h)]
theorem fam_keys : ∀ (b : Nat) (l : List Ob) (p : Nat × Ob), p ∈ fam b l → b ≤ p.1 ∧ p.1 < b + l.length
  | b, [], p, h => by simp [fam] at h
  | b, o :: l, p, h => by
    rcases List.mem_cons.1 h with rfl | h
    · simp
    · have := fam_keys (b + 1) l p h
      simp only [List.length_cons]
      omega
theorem filter_fam {b : Nat} {l : List Ob} {j : Nat} (h : j < b ∨ l.length + b ≤ j) : (fam b l).filter (fun p => !(p.1 == j)) = fam b l := by
  refine List.filter_eq_self.2 fun p hp => ?_
  have := fam_keys b l p hp
  simp
  omega
theorem del_fam {b : Nat} {l : List Ob} {j : Nat} (h : j < b ∨ l.length + b ≤ j) : del (fam b l) j = fam b l := filter_fam h
theorem del_cons {p : Nat × Ob} {l : List (Nat × Ob)} {j : Nat} : del (p :: l) j = if p.1 = j then del l j else p :: del l j := by
  unfold del
  by_cases h : p.1 = j <;> simp [h]
theorem wkO_iff (s : St) (nx : Nat) : ∀ (l : List (Nat × Ob)), wkO s nx l ↔ ∀ p ∈ l, p.1 < nx ∧ getK s.obs p.1 = some p.2 ∧ p.2.under nx = true
  | [] => by simp [wkO]
  | p :: l => by simp [wkO, wkO_iff s nx l]
theorem mem_fam : ∀ (b : Nat) (l : List Ob) (p : Nat × Ob), p ∈ fam b l ↔ ∃ i o, l[i]? = some o ∧ p = (i + b, o)
  | b, [], p => by simp [fam]
  | b, o :: l, p => by
    rw [fam, List.mem_cons, mem_fam (b + 1) l p]
    constructor
    · rintro (rfl | ⟨i, o', h, rfl⟩)
      · exact ⟨0, o, rfl, by simp⟩
      · exact ⟨i + 1, o', h, by rw [Nat.add_assoc, Nat.add_comm 1 b]⟩
    · rintro ⟨i, o', h, rfl⟩
      cases i with
      | zero => left; simp at h; simp [h]
      | succ i => right; exact ⟨i, o', h, by rw [Nat.add_assoc, Nat.add_comm 1 b]⟩
theorem wkO_fam (s : St) (nx b : Nat) (l : List Ob) : wkO s nx (fam b l) ↔ ∀ i o, l[i]? = some o → i + b < nx ∧ getK s.obs (i + b) = some o ∧ o.under nx = true := by
  rw [wkO_iff]
  constructor
  · intro h i o hi
    exact h (i + b, o) ((mem_fam _ _ _).2 ⟨i, o, hi, rfl⟩)
  · intro h p hp
    obtain ⟨i, o, hi, rfl⟩ := (mem_fam _ _ _).1 hp
    exact h i o hi
theorem wkO_append (s : St) (nx : Nat) (a b : List (Nat × Ob)) : wkO s nx (a ++ b) ↔ wkO s nx a ∧ wkO s nx b := by
  simp only [wkO_iff, List.mem_append]
  exact ⟨fun h => ⟨fun p hp => h p (.inl hp), fun p hp => h p (.inr hp)⟩, fun h p hp => hp.elim (h.1 p) (h.2 p)⟩
theorem wkR_iff (s : St) (ρ : Nat → Nat) (nx : Nat) : ∀ (l : List (Nat × Ob)), wkR s ρ nx l ↔ ∀ p ∈ l, p.1 < nx ∧ (match getK s.obs (ρ p.1) with | some ob => obR ρ nx ob p.2 | none => False)
  | [] => by simp [wkR]
  | p :: l => by
    rw [wkR, wkR_iff s ρ nx l]
    exact ⟨fun h q hq => (List.mem_cons.1 hq).elim (fun e => by subst e; exact h.1) (h.2 q), fun h => ⟨h p (by simp), fun q hq => h q (by simp [hq])⟩⟩
theorem wkR_fam (s : St) (ρ : Nat → Nat) (nx b : Nat) (l : List Ob) : wkR s ρ nx (fam b l) ↔ ∀ i o, l[i]? = some o → i + b < nx ∧ (match getK s.obs (ρ (i + b)) with | some ob => obR ρ nx ob o | none => False) := by
  rw [wkR_iff]
  constructor
  · intro h i o hi
    exact h (i + b, o) ((mem_fam _ _ _).2 ⟨i, o, hi, rfl⟩)
  · intro h p hp
    obtain ⟨i, o, hi, rfl⟩ := (mem_fam _ _ _).1 hp
    exact h i o hi
theorem fam_fst (b : Nat) (l : List Ob) (i : Nat) : i ∈ (fam b l).map (·.1) ↔ b ≤ i ∧ i < b + l.length := by
  constructor
  · intro h
    obtain ⟨p, hp, rfl⟩ := List.mem_map.1 h
    exact fam_keys b l p hp
  · rintro ⟨h1, h2⟩
    refine List.mem_map.2 ⟨(i, l[i - b]'(by omega)), (mem_fam _ _ _).2 ⟨i - b, _, List.getElem?_eq_getElem _, by rw [Nat.sub_add_cancel h1]⟩, rfl⟩
/-- One object under another number. -/
def rho1 (a c : Nat) (i : Nat) : Nat := if i = a then c else i
/-- Rows of a slice of slices: each of them an object of its own. -/
def idR (b m n : Nat) : List (List D) := (List.range n).map fun i => [D.vec (i + b) m]
theorem idR_len (b m n : Nat) : (idR b m n).length = n := by simp [idR]
theorem idR_get (b m n i : Nat) (h : i < n) : (idR b m n)[i]? = some [D.vec (i + b) m] := by simp [idR, h]
theorem idR_getE (b m n i : Nat) (h : i < (idR b m n).length) : (idR b m n)[i] = [D.vec (i + b) m] := by simp [idR]
theorem idR_zero (b m : Nat) : idR b m 0 = [] := rfl
theorem idR_snoc (b m n : Nat) : idR b m n ++ [[D.vec (n + b) m]] = idR b m (n + 1) := by simp [idR, List.range_succ]
theorem idR_cons (b m n : Nat) : idR b m (n + 1) = [D.vec b m] :: idR (b + 1) m n := by
  simp only [idR, List.range_succ_eq_map, List.map_cons, List.map_map, Nat.zero_add]
  congr 1
  apply List.map_congr_left
  intro i _
  simp only [Function.comp]
  rw [show i.succ + b = i + (b + 1) by omega]
theorem idR_lenR (b m n : Nat) : lenR 1 (idR b m n) := by
  intro r hr
  obtain ⟨i, _, rfl⟩ := List.mem_map.1 hr
  rfl
theorem idR_under (b m n nx : Nat) (h : b + n ≤ nx) : ((idR b m n).all fun r => r.all (·.under nx)) = true := by
  simp only [List.all_eq_true]
  intro r hr c hc
  obtain ⟨i, hi, rfl⟩ := List.mem_map.1 hr
  have := List.mem_range.1 hi
  simp at hc
  subst hc
  simp only [D.under, decide_eq_true_eq]
  omega
theorem idR_under2 {b m n nx : Nat} (h : n + b ≤ nx) : (∀ x ∈ idR b m n, ∀ y ∈ x, D.under nx y = true) = True := eq_true fun r hr c hc => by
  obtain ⟨i, hi, rfl⟩ := List.mem_map.1 hr
  have := List.mem_range.1 hi
  simp at hc
  subst hc
  simp only [D.under, decide_eq_true_eq]
  omega
theorem idR_fix1 {a c b m n nx : Nat} (h : n + b ≤ nx) (ha : a < b ∨ n + b ≤ a) : fixRows (rho1 a c) nx (idR b m n) = True := eq_true (by
  intro r hr c hc
  obtain ⟨i, hi, rfl⟩ := List.mem_map.1 hr
  have hi := List.mem_range.1 hi
  simp at hc
  subst hc
  simp only [D.ren, D.under, decide_eq_true_eq]
  refine ⟨?_, by omega⟩
  rw [rho1, if_neg (by omega)])
theorem idR_fix (ρ : Nat → Nat) (b m n nx : Nat) (h : b + n ≤ nx) (hρ : ∀ i, i < n → ρ (i + b) = i + b) : fixRows ρ nx (idR b m n) := by
  intro r hr c hc
  obtain ⟨i, hi, rfl⟩ := List.mem_map.1 hr
  have hi := List.mem_range.1 hi
  simp at hc
  subst hc
  simp only [D.ren, hρ i hi, D.under, decide_eq_true_eq]
  exact ⟨trivial, by omega⟩
theorem Wk.eqo {Γ : Ctx} {s s' : St} (h : s.Eqo s') : Wk Γ s s' := fun K _ _ h1 h2 => ⟨K, h1, h2.eqo h⟩
/-- A value that names no object of a family. -/
def outD (b : Nat) : D → Prop
  | .u _ => True
  | .any => True
  | .vec j _ => j < b
  | .ptr j _ => j < b
  | _ => False
theorem frz_outD {b i : Nat} {us : List (List U)} {d : D} (h : outD b d) (hi : b ≤ i) : VL.frz i us d = d := by
  cases d with
  | vec j n =>
    simp only [outD] at h
    simp only [VL.frz, frzS, fv, fzVec]
    rw [if_neg (by omega)]
  | ptr j n => simp [VL.frz, VL.frzS, fv, fzVec]
  | u x => simp [VL.frz, VL.frzS]
  | any => simp [VL.frz, VL.frzS]
  | _ => exact h.elim
theorem outD_succ {b : Nat} {d : D} (h : outD b d) : outD (b + 1) d := by
  cases d <;> simp only [outD] at h ⊢ <;> omega
theorem map_same {α : Type} {f : α → α} {l : List α} (h : ∀ x ∈ l, f x = x) : l.map f = l := by
  conv => rhs; rw [← List.map_id l]
  exact List.map_congr_left h
/-- A slice of slices, told as a value. -/
theorem Wk.frzFam {Γ : Ctx} {j e2 e sz m : Nat} (rest : List (Nat × Ob)) : ∀ (us : List (List (List U))) (b : Nat) (A : List (List U)) (s : St), j < b → (∀ r ∈ us, r.length = m) → (∀ p ∈ s.env, outD b p.2) → (∀ i ob, getK rest i = some ob → i < b ∨ b + us.length ≤ i) →
    s.obs = (j, .vec e2 1 (rowsD A ++ idR b m us.length)) :: (fam b (us.map fun r => .vec e sz (rowsD r)) ++ rest) → Wk Γ s { s with obs := (j, .vec e2 1 (rowsD (A ++ us.map fun r => [.sl r]))) :: rest }
  | [], b, A, s, _, _, _, _, h => by
    have : s = { s with obs := (j, .vec e2 1 (rowsD (A ++ ([] : List (List (List U))).map fun r => [.sl r]))) :: rest } := by
      cases s
      simp only at h
      simp [h, idR_zero, fam]
    rw [← this]
    exact .refl s
  | r :: us, b, A, s, hj, hl, he, hr, h => by
    have hlr := hl r (by simp)
    have hb : getK s.obs b = some (.vec e sz (rowsD r)) := by
      rw [h, getK_cons, if_neg (by omega), getK_append, List.map_cons, fam, getK_cons, if_pos rfl]
    refine (Wk.frz b [j] (us := r) hb (by simp)).trans ?_
    refine Wk.trans (Wk.eqo (s' := { s with obs := (j, .vec e2 1 (rowsD (A ++ [[.sl r]]) ++ idR (b + 1) m us.length)) :: (fam (b + 1) (us.map fun r => .vec e sz (rowsD r)) ++ rest) }) ⟨rfl, fun x => ?_, rfl, fun x => ?_⟩)
      (Wk.trans (Wk.frzFam rest us (b + 1) (A ++ [[.sl r]]) _ (by omega) (fun q hq => hl q (by simp [hq])) (fun p hp => outD_succ (he p hp)) (fun i ob hi => by have := hr i ob hi; simp only [List.length_cons] at this; omega) rfl) ?_)
    · show getK (s.frz b r [j]).obs x = _
      simp only [St.frz, St.frzS]
      rw [getK_frzO, h]
      have hfr : VL.frzObS (fzVec b r) (.vec e2 1 (rowsD A ++ idR b m (r :: us).length)) = .vec e2 1 (rowsD (A ++ [[.sl r]]) ++ idR (b + 1) m us.length) := by
        simp only [VL.frzObS, List.map_append, frz_rowsD, List.length_cons, idR_cons, List.map_cons, List.map_nil]
        simp only [rowsD, List.map_append, List.map_cons, List.map_nil, List.append_assoc]
        congr 2
        have h1 : VL.frzS (fzVec b r) (.vec b m) = .u (.sl r) := by
          simp only [VL.frzS, fv, fzVec]
          rw [if_pos ⟨trivial, by omega⟩]
          simp only
          rw [List.take_of_length_le (by omega)]
        rw [h1]
        simp only [List.cons_append, List.nil_append, List.cons.injEq, true_and]
        refine map_same fun q hq => map_same fun c hc => ?_
        obtain ⟨i, _, rfl⟩ := List.mem_map.1 hq
        simp at hc
        subst hc
        simp only [VL.frzS, fv, fzVec]
        rw [if_neg (by omega)]
      by_cases hxb : x = b
      · subst hxb
        rw [if_pos rfl, getK_cons, if_neg (by omega), getK_append, getK_fam, if_neg (by omega)]
        cases hq : getK rest x with
        | none => rfl
        | some ob => have := hr x ob hq; simp only [List.length_cons] at this; omega
      · rw [if_neg hxb]
        simp only [List.contains_cons, List.contains_nil, Bool.or_false, getK_cons]
        by_cases hxj : x = j
        · subst hxj
          simp only [if_true, Option.map_some, beq_self_eq_true, hfr]
        · have hbj : ¬ (x == j) = true := by simpa using hxj
          simp only [if_neg hxj, hbj, List.map_cons, fam, getK_append, getK_cons, if_neg hxb]
          cases getK (fam (b + 1) (us.map fun r => Ob.vec e sz (rowsD r))) x <;> cases getK rest x <;> rfl
    · show getK (s.env.map fun p => (p.1, VL.frzS (fzVec b r) p.2)) x = _
      rw [show (s.env.map fun p => (p.1, VL.frzS (fzVec b r) p.2)) = s.env from map_same fun p hp => by
        have := frz_outD (us := r) (he p hp) (Nat.le_refl b)
        simp only [VL.frz] at this
        rw [this]]
    · simp only [List.map_cons, List.append_assoc, List.cons_append, List.nil_append]
      exact .refl _
-- a family behind other objects
/-- The objects end in T; those ahead of it lie outside of its numbers. -/
def EndsIn (T : List (Nat × Ob)) (b k : Nat) : List (Nat × Ob) → Prop
  | [] => T = []
  | p :: l => (p :: l = T) ∨ ((p.1 < b ∨ k + b ≤ p.1) ∧ EndsIn T b k l)
theorem endsIn_here (T b k) : EndsIn T b k T = True := eq_true (by cases T <;> simp [EndsIn])
theorem endsIn_cons {T b k p l} : EndsIn T b k (p :: l) = ((p :: l = T) ∨ ((p.1 < b ∨ k + b ≤ p.1) ∧ EndsIn T b k l)) := rfl
theorem EndsIn.out {T b k} : ∀ {obs}, EndsIn T b k obs → ∃ A, obs = A ++ T ∧ ∀ p ∈ A, p.1 < b ∨ k + b ≤ p.1
  | [], h => ⟨[], by rw [show T = [] from h]; rfl, by simp⟩
  | p :: l, h => by
    rcases h with h | ⟨h1, h2⟩
    · exact ⟨[], by rw [h]; rfl, by simp⟩
    · obtain ⟨A, e, h3⟩ := EndsIn.out h2
      exact ⟨p :: A, by rw [e]; rfl, fun q hq => (List.mem_cons.1 hq).elim (fun e => by rw [e]; exact h1) (h3 q)⟩
theorem EndsIn.get {L : List Ob} {b obs} (h : EndsIn (fam b L) b L.length obs) {i : Nat} (hi : i < L.length) : getK obs (i + b) = L[i]? := by
  obtain ⟨A, rfl, h2⟩ := h.out
  rw [getK_append]
  have : getK A (i + b) = none := by
    cases hq : getK A (i + b) with
    | none => rfl
    | some o =>
      obtain ⟨p, hp, e⟩ := List.mem_map.1 (getK_mem hq)
      have := h2 p hp
      omega
  rw [this, getK_fam_add]
def famPure (L : List Ob) : Prop := ∀ o ∈ L, ∃ e sz B, o = .vec e sz B ∧ pureRows B
theorem famPure.under {L : List Ob} (h : famPure L) {o : Ob} (ho : o ∈ L) (nx : Nat) : o.under nx = true := by
  obtain ⟨e, sz, B, rfl, hB⟩ := h o ho
  exact Ob.under_vec (pureRows_out hB)
theorem wkO_tail {s : St} {nx b : Nat} {L : List Ob} (h : EndsIn (fam b L) b L.length s.obs) (hp : famPure L) (hx : L.length + b ≤ nx) : wkO s nx (fam b L) = True := by
  refine eq_true ((wkO_fam s nx b L).2 fun i o hi => ?_)
  have hlt := (List.getElem?_eq_some_iff.1 hi).1
  exact ⟨by omega, by rw [h.get hlt, hi], hp.under (List.mem_of_getElem? hi) nx⟩
theorem wkR_tail {s : St} {ρ : Nat → Nat} {nx b : Nat} {L : List Ob} (h : EndsIn (fam b L) b L.length s.obs) (hp : famPure L) (hx : L.length + b ≤ nx) (hρ : ∀ i, i < L.length → ρ (i + b) = i + b) : wkR s ρ nx (fam b L) := by
  refine (wkR_fam s ρ nx b L).2 fun i o hi => ?_
  have hlt := (List.getElem?_eq_some_iff.1 hi).1
  refine ⟨by omega, ?_⟩
  rw [hρ i hlt, h.get hlt, hi]
  obtain ⟨e, sz, B, rfl, hB⟩ := hp o (List.mem_of_getElem? hi)
  exact ⟨rfl, rfl, rfl, .inl hB⟩
theorem wkR_tail1 {s : St} {a c nx b : Nat} {L : List Ob} (h : EndsIn (fam b L) b L.length s.obs) (hp : famPure L) (hx : L.length + b ≤ nx) (ha : a < b ∨ L.length + b ≤ a) : wkR s (rho1 a c) nx (fam b L) = True :=
  eq_true (wkR_tail h hp hx fun i hi => by rw [rho1, if_neg (by omega)])
theorem Wk.ren1 {Γ : Ctx} {s s' : St} (a c : Nat) (hn : s'.n = s.n) (h0 : Γ.n0 ≤ a) (h1 : Γ.n0 ≤ s'.next) (hc : s'.next ≤ c) (he : wkER s (rho1 a c) s'.next s'.env) (ho : wkR s (rho1 a c) s'.next s'.obs) : Wk Γ s s' := by
  refine Wk.ren (rho1 a c) hn (fun i hi => ⟨by rw [rho1, if_neg (by omega)], by omega⟩) he ho fun i hi j hj e => ?_
  have key : ∀ i ∈ s'.obs.map (·.1), i < s'.next := fun i hi => by
    obtain ⟨p, hp, rfl⟩ := List.mem_map.1 hi
    exact ((wkR_iff _ _ _ _).1 ho p hp).1
  have h2 := key i hi
  have h3 := key j hj
  unfold rho1 at e
  split at e <;> split at e <;> omega
theorem Ret.re {P : Program} {f : FuncId} {ds : List D} {obs : List (Nat × Ob)} {nx : Nat} {p q : D → List (Nat × Ob) → Nat → Prop} (h : Ret P f ds obs nx p) (hq : ∀ d o n, p d o n → ∃ o', (∀ j, getK o' j = getK o j) ∧ q d o' n) : Ret P f ds obs nx q :=
  fun k own w vs h1 h2 h3 h4 => (h k own w vs h1 h2 h3 h4).mono fun e w' ⟨v, d, o, nx', k', a1, a2, a3, a4, a5, a6, a7⟩ =>
    let ⟨o', b1, b2⟩ := hq d o nx' a7
    ⟨v, d, o', nx', k', a1, a2, a3.congr b1, a4, a5, a6, b2⟩
theorem getK_none {l : List (Nat × Ob)} {j : Nat} (h : ∀ p ∈ l, p.1 ≠ j) : getK l j = none := by
  cases hq : getK l j with
  | none => rfl
  | some o =>
    obtain ⟨p, hp, e⟩ := List.mem_map.1 (getK_mem hq)
    exact absurd e (h p hp)
/-- A call that is handed some objects and one of a family. -/
theorem CallP.retFam {P : Program} {Γ : Ctx} {s : St} {k : St → Prop} {dst : Option Tmp} {fop : Operand} {args : List Operand} {f caps} {ds : List D} {post : D → List (Nat × Ob) → Nat → Prop} (A X X' : List (Nat × Ob)) (b i : Nat) (L : List Ob) (row row' : Ob)
    (hret : Ret P f ds (X ++ [(i + b, row)]) s.next post) (hi : L[i]? = some row) (hobs : ∀ j, getK s.obs j = getK (A ++ (X ++ fam b L)) j)
    (hA : ∀ p ∈ A, (p.1 < b ∨ L.length + b ≤ p.1) ∧ ∀ q ∈ X, q.1 ≠ p.1) (hX : ∀ p ∈ X, p.1 < b ∨ L.length + b ≤ p.1) (hX' : ∀ p ∈ X', p.1 < b ∨ L.length + b ≤ p.1)
    (hf : calleeOf (opd s fop) = some (f, caps)) (hc : callable P f = true) (hds : args.map (opd s) ++ caps = ds) (hp : putOK dst s)
    (hk : ∀ d o1 nx', s.next ≤ nx' → post d o1 nx' → o1 = X' ++ [(i + b, row')] ∧ k (({ s with obs := A ++ (X' ++ fam b (L.set i row')), next := nx' } : St).put dst d)) : CallP P Γ fop args dst s k := by
  have hlt := (List.getElem?_eq_some_iff.1 hi).1
  have hfr := (hret.frame (A ++ del (fam b L) (i + b)) (fun j ob hj => by
    rw [getK_append] at hj ⊢
    cases hAj : getK A j with
    | some o =>
      obtain ⟨p, hp, e⟩ := List.mem_map.1 (getK_mem hAj)
      obtain ⟨h1, h2⟩ := hA p hp
      rw [getK_none (l := X) (fun q hq => by rw [← e]; exact h2 q hq)]
      simp only [getK_cons, getK]
      rw [if_neg (by omega)]
    | none =>
      rw [hAj] at hj
      simp only [Option.none_or, getK_del, getK_fam] at hj
      by_cases hji : j = i + b
      · rw [if_pos hji] at hj; cases hj
      · rw [if_neg hji] at hj
        by_cases hbj : b ≤ j
        · rw [if_pos hbj] at hj
          have hjl := (List.getElem?_eq_some_iff.1 hj).1
          rw [getK_none (l := X) (fun q hq => by have := hX q hq; omega)]
          simp only [getK_cons, getK]
          rw [if_neg hji]; (try rfl)
        · rw [if_neg hbj] at hj; cases hj)).congr (obs' := s.obs) fun j => by
      rw [hobs j]
      simp only [getK_append, getK_del, getK_cons, getK]
      by_cases hji : j = i + b
      · subst hji
        rw [if_pos rfl, if_pos rfl, getK_fam_add, hi, getK_none (l := A) (fun p hp => by have := (hA p hp).1; omega)]
      · rw [if_neg hji, if_neg hji]
        cases getK A j with
        | some o => rfl
        | none =>
          simp only [Option.none_or]
          cases hXj : getK X j with
          | none => cases getK (fam b L) j <;> rfl
          | some o =>
            obtain ⟨p, hp, e⟩ := List.mem_map.1 (getK_mem hXj)
            have := hX p hp
            rw [getK_none (l := fam b L) (fun q hq => by have := fam_keys b L q hq; omega)]
            all_goals (try rfl)
  refine CallP.ret_ (post := fun d o nx' => s.next ≤ nx' ∧ k (({ s with obs := o, next := nx' } : St).put dst d)) (fun k0 own w vs h1 h2 h3 h4 => (hfr k0 own w vs h1 h2 h3 h4).mono fun e w' ⟨v, d, o, nx', k', a1, a2, a3, a4, a5, a6, o1, a7, a8⟩ => ?_) hf hc hds hp fun d o n hn h => h.2
  obtain ⟨e1, e3⟩ := hk d o1 nx' a5 a8
  have e2 := hX'
  refine ⟨v, d, _, nx', k', a1, a2, a3.congr fun j => ?_, a4, a5, a6, a5, e3⟩
  subst a7
  subst e1
  simp only [getK_append, getK_del, getK_cons, getK]
  cases hAj : getK A j with
  | some o => simp
  | none =>
    simp only [Option.none_or]
    by_cases hji : j = i + b
    · subst hji
      rw [if_pos rfl, if_pos rfl, getK_fam_add, List.getElem?_set_self hlt]
      all_goals (try rfl)
    · rw [if_neg hji, if_neg hji, getK_fam, getK_fam]
      by_cases hbj : b ≤ j
      · rw [if_pos hbj, if_pos hbj, List.getElem?_set_ne (by omega)]
        cases hL : L[j - b]? with
        | none => cases getK X' j <;> rfl
        | some o =>
          have hjl := (List.getElem?_eq_some_iff.1 hL).1
          rw [getK_none (l := X') (fun q hq => by have := e2 q hq; omega)]
          all_goals (try rfl)
      · rw [if_neg hbj, if_neg hbj]
        (try cases getK X' j <;> rfl)
theorem fam_snoc : ∀ (b : Nat) (L : List Ob) (o : Ob), fam b (L ++ [o]) = fam b L ++ [(L.length + b, o)]
  | b, [], o => by simp [fam]
  | b, p :: L, o => by
    rw [List.cons_append, fam, fam_snoc (b + 1) L o, fam, List.cons_append, List.length_cons, show L.length + (b + 1) = L.length + 1 + b by omega]
theorem wkR_append (s : St) (ρ : Nat → Nat) (nx : Nat) (a b : List (Nat × Ob)) : wkR s ρ nx (a ++ b) ↔ wkR s ρ nx a ∧ wkR s ρ nx b := by
  simp only [wkR_iff, List.mem_append]
  exact ⟨fun h => ⟨fun p hp => h p (.inl hp), fun p hp => h p (.inr hp)⟩, fun h p hp => hp.elim (h.1 p) (h.2 p)⟩
theorem V_loopN {P Γ Q k s} {c : Code} {α : Type} (live : List Nat) (F : α → List (Nat × D)) (O : α → List (Nat × Ob)) (nx : α → Nat) (μ : α → Nat) (x0 : α) (h0 : Wk Γ s { s.lp live (F x0) with obs := O x0, next := nx x0 })
    (h : ∀ x, V P Γ c { s.lp live (F x) with obs := O x, next := nx x } (RunK P Γ Q (.loop (LoopW Γ (fun x => { s.lp live (F x) with obs := O x, next := nx x }) μ x) k))) : V P Γ (.loop c) s (RunK P Γ Q k) := V_loopW _ μ x0 h0 h
/-- A call that is handed some objects; they come ahead of the others afterwards. -/
theorem CallP.retR {P : Program} {Γ : Ctx} {s : St} {k : St → Prop} {dst : Option Tmp} {fop : Operand} {args : List Operand} {f caps} {ds : List D} {post : D → List (Nat × Ob) → Nat → Prop} (F obs : List (Nat × Ob)) (hret : Ret P f ds obs s.next post)
    (heq : ∀ i, getK s.obs i = getK (F ++ obs) i) (hF : ∀ i ob, getK F i = some ob → getK obs i = none)
    (hf : calleeOf (opd s fop) = some (f, caps)) (hc : callable P f = true) (hds : args.map (opd s) ++ caps = ds) (hp : putOK dst s)
    (hk : ∀ d o1 nx', s.next ≤ nx' → post d o1 nx' → (∀ q ∈ F, ∀ x ∈ o1, q.1 ≠ x.1) ∧ k (({ s with obs := o1 ++ F, next := nx' } : St).put dst d)) : CallP P Γ fop args dst s k := by
  have hfr := ((hret.frame F hF).congr heq)
  refine CallP.ret_ (post := fun d o nx' => s.next ≤ nx' ∧ k (({ s with obs := o, next := nx' } : St).put dst d)) (fun k0 own w vs h1 h2 h3 h4 => (hfr k0 own w vs h1 h2 h3 h4).mono fun e w' ⟨v, d, o, nx', k', a1, a2, a3, a4, a5, a6, o1, a7, a8⟩ => ?_) hf hc hds hp fun d o n hn h => h.2
  obtain ⟨e1, e3⟩ := hk d o1 nx' a5 a8
  refine ⟨v, d, _, nx', k', a1, a2, a3.congr fun j => ?_, a4, a5, a6, a5, e3⟩
  subst a7
  rw [getK_append, getK_append]
  cases hq : getK o1 j with
  | none => cases getK F j <;> simp
  | some ob =>
    obtain ⟨x, hx, e⟩ := List.mem_map.1 (getK_mem hq)
    rw [getK_none (l := F) (fun q hq' h => e1 q hq' x hx (by rw [h, e]))]
    try rfl
/-- Two objects under other numbers. -/
def rho2 (a c a' c' : Nat) (i : Nat) : Nat := if i = a then c else if i = a' then c' else i
theorem wkR_tail2 {s : St} {a c a' c' nx b : Nat} {L : List Ob} (h : EndsIn (fam b L) b L.length s.obs) (hp : famPure L) (hx : L.length + b ≤ nx) (ha : a < b ∨ L.length + b ≤ a) (ha' : a' < b ∨ L.length + b ≤ a') : wkR s (rho2 a c a' c') nx (fam b L) = True :=
  eq_true (wkR_tail h hp hx fun i hi => by rw [rho2, if_neg (by omega), if_neg (by omega)])
theorem idR_fix2 {a c a' c' b m n nx : Nat} (h : n + b ≤ nx) (ha : a < b ∨ n + b ≤ a) (ha' : a' < b ∨ n + b ≤ a') : fixRows (rho2 a c a' c') nx (idR b m n) = True := eq_true (by
  intro r hr c hc
  obtain ⟨i, hi, rfl⟩ := List.mem_map.1 hr
  have hi := List.mem_range.1 hi
  simp at hc
  subst hc
  simp only [D.ren, D.under, decide_eq_true_eq]
  refine ⟨?_, by omega⟩
  rw [rho2, if_neg (by omega), if_neg (by omega)])
theorem Wk.ren2 {Γ : Ctx} {s s' : St} (a c a' c' : Nat) (hn : s'.n = s.n) (h0 : Γ.n0 ≤ a) (h0' : Γ.n0 ≤ a') (h1 : Γ.n0 ≤ s'.next) (hc : s'.next ≤ c) (hc' : s'.next ≤ c') (hcc : ¬ c = c') (he : wkER s (rho2 a c a' c') s'.next s'.env) (ho : wkR s (rho2 a c a' c') s'.next s'.obs) : Wk Γ s s' := by
  refine Wk.ren (rho2 a c a' c') hn (fun i hi => ⟨by rw [rho2, if_neg (by omega), if_neg (by omega)], by omega⟩) he ho fun i hi j hj e => ?_
  have key : ∀ i ∈ s'.obs.map (·.1), i < s'.next := fun i hi => by
    obtain ⟨p, hp, rfl⟩ := List.mem_map.1 hi
    exact ((wkR_iff _ _ _ _).1 ho p hp).1
  have h2 := key i hi
  have h3 := key j hj
  unfold rho2 at e
  repeat' split at e
  all_goals omega
end Go.VL
