/- Calculus: families of slices that have lengths of their own: made of nil cells, appended to one by one, told as a value at the end. -/
import Derived.Test.YtdkadmchdocjbaaVLV
set_option linter.all false
set_option maxRecDepth 100000
set_option maxHeartbeats 8000000
namespace Go.VL
open Go
/-- Rows of a slice of slices: each of them an object of its own, with its own length. -/
def idF (b : Nat) : List Nat → List (List D)
  | [] => []
  | m :: ms => [D.vec b m] :: idF (b + 1) ms
theorem idF_len : ∀ (b : Nat) (ms : List Nat), (idF b ms).length = ms.length
  | _, [] => rfl
  | b, m :: ms => by simp [idF, idF_len (b + 1) ms]
theorem idF_get : ∀ (b : Nat) (ms : List Nat) (i m : Nat), ms[i]? = some m → (idF b ms)[i]? = some [D.vec (i + b) m]
  | b, [], i, m, h => by simp at h
  | b, k :: ms, 0, m, h => by simp at h; simp [idF, h]
  | b, k :: ms, i + 1, m, h => by
    rw [idF, List.getElem?_cons_succ, idF_get (b + 1) ms i m (by simpa using h), Nat.add_right_comm, Nat.add_assoc]
theorem idF_set : ∀ (b : Nat) (ms : List Nat) (i m : Nat), (idF b ms).set i [D.vec (i + b) m] = idF b (ms.set i m)
  | b, [], i, m => rfl
  | b, k :: ms, 0, m => by simp [idF]
  | b, k :: ms, i + 1, m => by
    rw [idF, List.set_cons_succ, List.set_cons_succ, idF, ← idF_set (b + 1) ms i m, Nat.add_right_comm, Nat.add_assoc]
theorem idF_append : ∀ (b : Nat) (ms ks : List Nat), idF b (ms ++ ks) = idF b ms ++ idF (b + ms.length) ks
  | b, [], ks => rfl
  | b, m :: ms, ks => by
    rw [List.cons_append, idF, idF_append (b + 1) ms ks, idF, List.cons_append, List.length_cons, Nat.add_right_comm, Nat.add_assoc]
theorem idF_mem {b : Nat} {ms : List Nat} {r : List D} (h : r ∈ idF b ms) : ∃ i m, i < ms.length ∧ r = [D.vec (i + b) m] := by
  obtain ⟨i, hi⟩ := List.getElem?_of_mem h
  have hl := (List.getElem?_eq_some_iff.1 hi).1
  rw [idF_len] at hl
  rw [idF_get b ms i ms[i] (List.getElem?_eq_getElem hl)] at hi
  cases hi
  exact ⟨i, _, hl, rfl⟩
theorem idF_lenR (b : Nat) (ms : List Nat) : lenR 1 (idF b ms) := by
  intro r hr
  obtain ⟨i, m, _, rfl⟩ := idF_mem hr
  rfl
theorem idF_under2 {b nx : Nat} {ms : List Nat} (h : ms.length + b ≤ nx) : (∀ x ∈ idF b ms, ∀ y ∈ x, D.under nx y = true) = True := eq_true fun r hr c hc => by
  obtain ⟨i, m, hi, rfl⟩ := idF_mem hr
  simp at hc
  subst hc
  simp only [D.under, decide_eq_true_eq]
  omega
/-- A nil cell of a slice, told as an empty slice of the call's own. -/
theorem Wk.ownV {Γ : Ctx} {s : St} (j i e2 e sz : Nat) (rows : List (List D)) (hsz : 0 < sz) (hj : getK s.obs j = some (.vec e2 1 rows)) (hi : rows[i]? = some [.u .nil]) :
    Wk Γ s { s with obs := (s.next, .vec e sz []) :: setOb s.obs j (.vec e2 1 (rows.set i [.vec s.next 0])), next := s.next + 1 } := by
  intro k a w hin hs
  obtain ⟨h1, h2⟩ := addNil e sz hsz hin hs
  have hne : j ≠ s.next := fun h => by
    obtain ⟨g, h3, _⟩ := hs.sat.ob j _ hj
    rw [h, hs.hdr s.next (Nat.le_refl _)] at h3
    cases h3
  refine ⟨_, h1, ⟨?_, h2.defers, h2.size, h2.env, h2.hdr⟩⟩
  have hj' : getK ((s.next, Ob.vec e sz []) :: s.obs) j = some (.vec e2 1 rows) := by rw [getK_cons, if_neg hne]; exact hj
  obtain ⟨g, hg, hg1, xs, h3, h4, h5, h6⟩ := h2.sat.ob j _ hj'
  have hlt := (List.getElem?_eq_some_iff.1 hi).1
  refine Sat.congr (Sat.set h2.sat hj' hg (fun _ _ => rfl) (ob' := .vec e2 1 (rows.set i [.vec s.next 0])) ⟨xs, by simpa using h3, h4, fun r hr => ?_, fun y r hy q d hq => ?_⟩) fun y => ?_
  · rcases List.mem_or_eq_of_mem_set hr with h | rfl
    · exact h5 r h
    · rfl
  · rw [List.getElem?_set] at hy
    by_cases hyi : i = y
    · subst hyi
      rw [if_pos rfl, if_pos hlt] at hy
      cases hy
      cases q with
      | zero =>
        simp at hq
        subst hq
        obtain ⟨h7, h8⟩ := h6 i _ hi 0 (.u .nil) rfl
        refine ⟨h7, ?_⟩
        rw [rep_nil h8]
        exact .vec s.next 0 (none, 0) (by simp [Kr.add])
      | succ q => simp at hq
    · rw [if_neg hyi] at hy
      exact h6 y r hy q d hq
  · simp only [getK_cons, getK_setOb]
    by_cases hy : y = j
    · subst hy; simp [hne]
    · simp [hy]
theorem replicate_nil_split (A : List (List D)) (n : Nat) : (A ++ List.replicate (n + 1) [D.u .nil])[A.length]? = some [.u .nil] := by simp [List.replicate_succ]
/-- Nil slices in a row, told as a family of empty slices. -/
theorem Wk.nilFam {Γ : Ctx} (j e2 e sz : Nat) (hsz : 0 < sz) (rest : List (Nat × Ob)) : ∀ (n : Nat) (A : List (List D)) (s : St), (∀ i ob, getK rest i = some ob → i < s.next) → j < s.next →
    s.obs = (j, .vec e2 1 (A ++ List.replicate n [.u .nil])) :: rest →
    Wk Γ s { s with obs := (j, .vec e2 1 (A ++ idF s.next (List.replicate n 0))) :: (fam s.next (List.replicate n (.vec e sz [])) ++ rest), next := s.next + n }
  | 0, A, s, _, _, h => by
    have : s = { s with obs := (j, .vec e2 1 (A ++ idF s.next (List.replicate 0 0))) :: (fam s.next (List.replicate 0 (.vec e sz [])) ++ rest), next := s.next + 0 } := by
      cases s
      simp only at h
      simp [h, idF, fam]
    rw [← this]
    exact .refl s
  | n + 1, A, s, hr, hj, h => by
    have h1 := Wk.ownV (Γ := Γ) (s := s) j A.length e2 e sz _ hsz (by rw [h, getK_cons, if_pos rfl]) (replicate_nil_split A n)
    have hset : (A ++ List.replicate (n + 1) [D.u .nil]).set A.length [D.vec s.next 0] = (A ++ [[D.vec s.next 0]]) ++ List.replicate n [D.u .nil] := by
      rw [List.set_append_right _ _ (Nat.le_refl _), Nat.sub_self, List.replicate_succ, List.set_cons_zero]
      simp
    rw [hset] at h1
    have h2 := Wk.nilFam (Γ := Γ) j e2 e sz hsz ((s.next, .vec e sz []) :: rest) n (A ++ [[D.vec s.next 0]]) { s with obs := (j, .vec e2 1 ((A ++ [[D.vec s.next 0]]) ++ List.replicate n [D.u .nil])) :: (s.next, .vec e sz []) :: rest, next := s.next + 1 }
      (fun i ob hi => by
        rw [getK_cons] at hi
        by_cases hi2 : i = s.next
        · simp only; omega
        · rw [if_neg hi2] at hi
          have := hr i ob hi
          simp only; omega) (by simp only; omega) rfl
    refine h1.trans (Wk.trans (Wk.eqo (s' := { s with obs := (j, .vec e2 1 ((A ++ [[D.vec s.next 0]]) ++ List.replicate n [D.u .nil])) :: (s.next, .vec e sz []) :: rest, next := s.next + 1 }) ⟨rfl, fun x => ?_, rfl, fun x => rfl⟩) (h2.trans (Wk.eqo ⟨rfl, fun x => ?_, ?_, fun x => rfl⟩)))
    · rw [h]
      simp only [getK_cons, getK_setOb]
      by_cases hx : x = s.next
      · subst hx
        rw [if_pos rfl, if_neg (by omega), if_pos rfl]
      · rw [if_neg hx]
        by_cases hxj : x = j
        · subst hxj; simp
        · simp [hxj, hx]
    · simp only [List.replicate_succ, idF, fam, List.append_assoc, List.cons_append, List.nil_append, getK_cons, getK_append]
      by_cases hxj : x = j
      · simp [hxj]
      · simp only [if_neg hxj]
        by_cases hx : x = s.next
        · subst hx
          rw [if_pos rfl, getK_fam, if_neg (by omega)]
          simp
        · rw [if_neg hx]
          simp [hx]
    · simp only
      omega
theorem Wk.nilFamE {Γ : Ctx} {s : St} (j e2 e sz n : Nat) (hsz : 0 < sz) (rest : List (Nat × Ob)) (hr : ∀ p ∈ rest, p.1 < s.next) (hj : j < s.next) (h : s.obs = (j, .vec e2 1 (List.replicate n [.u .nil])) :: rest) :
    Wk Γ s { s with obs := (j, .vec e2 1 (idF s.next (List.replicate n 0))) :: (rest ++ fam s.next (List.replicate n (.vec e sz []))), next := s.next + n } := by
  have hr2 : ∀ i ob, getK rest i = some ob → i < s.next := fun i ob hi => by
    obtain ⟨p, hp, e⟩ := List.mem_map.1 (getK_mem hi)
    have := hr p hp
    omega
  refine (Wk.nilFam j e2 e sz hsz rest n [] s hr2 hj h).trans (Wk.eqo ⟨rfl, fun x => ?_, rfl, fun x => rfl⟩)
  simp only [List.nil_append, getK_cons, getK_append]
  by_cases hx : x = j
  · simp [hx]
  · rw [if_neg hx, if_neg hx]
    cases hq : getK rest x with
    | none => cases getK (fam s.next (List.replicate n (Ob.vec e sz []))) x <;> rfl
    | some ob =>
      have := hr2 x ob hq
      rw [getK_fam, if_neg (by omega)]
theorem del_append (a b : List (Nat × Ob)) (j : Nat) : del (a ++ b) j = del a j ++ del b j := by simp [del]
/-- The objects of a family, but one that lies elsewhere as yet. -/
theorem wkR_tailF {s : St} {c nx b : Nat} {L : List Ob} {i : Nat} {o : Ob} (h : ∀ q, q ≠ i → q < L.length → getK s.obs (q + b) = L[q]?) (hp : famPure L) (hp2 : famPure [o]) (hx : L.length + b ≤ nx) (hc : getK s.obs c = some o) : wkR s (rho1 (i + b) c) nx (fam b (L.set i o)) := by
  refine (wkR_fam s _ nx b _).2 fun q oq hq => ?_
  have hlt := (List.getElem?_eq_some_iff.1 hq).1
  rw [List.length_set] at hlt
  refine ⟨by omega, ?_⟩
  rw [List.getElem?_set] at hq
  by_cases hqi : i = q
  · subst hqi
    rw [if_pos rfl, if_pos hlt] at hq
    cases hq
    rw [rho1, if_pos rfl, hc]
    obtain ⟨e, sz, B, rfl, hB⟩ := hp2 o (by simp)
    exact ⟨rfl, rfl, rfl, .inl hB⟩
  · rw [if_neg hqi] at hq
    rw [rho1, if_neg (by omega), h q (fun e => hqi e.symm) hlt, hq]
    obtain ⟨e, sz, B, rfl, hB⟩ := hp oq (List.mem_of_getElem? hq)
    exact ⟨rfl, rfl, rfl, .inl hB⟩
/-- One of the family was appended to (into a new object): told as the same family again. -/
theorem Wk.famSet {Γ : Ctx} {s s' : St} (j b c i e2 m : Nat) (ms : List Nat) (O' : List (Nat × Ob)) (hn : s'.n = s.n) (h0 : Γ.n0 ≤ b) (h1 : Γ.n0 ≤ s'.next) (hc : s'.next ≤ c)
    (hjx : j < b) (hi : i < ms.length) (hb : ms.length + b ≤ s'.next) (hj : getK s.obs j = some (.vec e2 1 ((idF b ms).set i [.vec c m])))
    (hob : s'.obs = (j, .vec e2 1 (idF b (ms.set i m))) :: O') (he : wkER s (rho1 (i + b) c) s'.next s'.env) (ho : wkR s (rho1 (i + b) c) s'.next O') : Wk Γ s s' := by
  have key : ∀ x ob', getK s'.obs x = some ob' → x < s'.next ∧ ∃ ob, getK s.obs (rho1 (i + b) c x) = some ob ∧ Ob.le (rho1 (i + b) c) ob ob' ∧ ob'.under s'.next = true := fun x ob' hx => by
    rw [hob, getK_cons] at hx
    by_cases hxj : x = j
    · subst hxj
      rw [if_pos rfl] at hx
      cases hx
      refine ⟨by omega, .vec e2 1 ((idF b ms).set i [.vec c m]), by rw [rho1, if_neg (by omega)]; exact hj, ⟨rfl, rfl, by simp [idF_len], fun q r r' hr hr' => ?_⟩, ?_⟩
      · rw [← idF_set] at hr'
        by_cases hqi : q = i
        · subst hqi
          have h2 : q < (idF b ms).length := by rw [idF_len]; exact hi
          rw [List.getElem?_set_self h2] at hr hr'
          cases hr
          cases hr'
          refine ⟨rfl, fun y d d' hd hd' => ?_⟩
          cases y with
          | zero =>
            simp at hd hd'
            subst hd hd'
            right; left
            simp [D.ren, rho1]
          | succ y => simp at hd
        · rw [List.getElem?_set_ne (fun e => hqi e.symm)] at hr hr'
          rw [hr] at hr'
          cases hr'
          refine ⟨rfl, fun y d d' hd hd' => ?_⟩
          rw [hd] at hd'
          cases hd'
          have hq := (List.getElem?_eq_some_iff.1 hr).1
          rw [idF_len] at hq
          rw [idF_get b ms q ms[q] (List.getElem?_eq_getElem hq)] at hr
          cases hr
          cases y with
          | zero =>
            simp at hd
            subst hd
            right; left
            simp only [D.ren, rho1]
            rw [if_neg (by omega)]
          | succ y => simp at hd
      · simp only [Ob.under, List.all_eq_true]
        intro r hr d hd
        obtain ⟨q, m', hq, rfl⟩ := idF_mem hr
        simp at hd
        subst hd
        rw [List.length_set] at hq
        simp only [D.under, decide_eq_true_eq]
        omega
    · rw [if_neg hxj] at hx
      exact wkR_out ho x ob' hx
  intro K0 a w hin0 hs0
  refine ⟨_, Sim.weak (ρ := rho1 (i + b) c) hin0 hs0 ⟨hn, fun x d' h => ?_, fun x d' h => ?_, key, fun x y ox oy hx hy e => ?_, fun x hx => ⟨by rw [rho1, if_neg (by omega)], by omega⟩⟩⟩
  · obtain ⟨⟨d, h2, h3⟩, h4⟩ := wkER_out he x d' h
    have : s.at x = d := by show (getK s.env x).getD .any = d; rw [h2]; rfl
    rw [this]
    exact ⟨h3, h4⟩
  · obtain ⟨⟨d, h2, h3⟩, h4⟩ := wkER_out he x d' h
    exact (hs0.env x d h2).1
  · have h2 := (key x ox hx).1
    have h3 := (key y oy hy).1
    unfold rho1 at e
    split at e <;> split at e <;> omega
/-- A slice of slices with lengths of their own, told as a value. -/
theorem Wk.frzFamF {Γ : Ctx} {j e2 e sz : Nat} (rest : List (Nat × Ob)) : ∀ (us : List (List (List U))) (b : Nat) (A : List (List U)) (s : St), j < b → (∀ p ∈ s.env, outD b p.2) → (∀ i ob, getK rest i = some ob → i < b ∨ b + us.length ≤ i) →
    s.obs = (j, .vec e2 1 (rowsD A ++ idF b (us.map (·.length)))) :: (fam b (us.map fun r => .vec e sz (rowsD r)) ++ rest) → Wk Γ s { s with obs := (j, .vec e2 1 (rowsD (A ++ us.map fun r => [.sl r]))) :: rest }
  | [], b, A, s, _, _, _, h => by
    have : s = { s with obs := (j, .vec e2 1 (rowsD (A ++ ([] : List (List (List U))).map fun r => [.sl r]))) :: rest } := by
      cases s
      simp only at h
      simp [h, idF, fam]
    rw [← this]
    exact .refl s
  | r :: us, b, A, s, hj, he, hr, h => by
    have hb : getK s.obs b = some (.vec e sz (rowsD r)) := by
      rw [h, getK_cons, if_neg (by omega), getK_append, List.map_cons, fam, getK_cons, if_pos rfl]
    refine (Wk.frz b [j] (us := r) hb (by simp)).trans ?_
    refine Wk.trans (Wk.eqo (s' := { s with obs := (j, .vec e2 1 (rowsD (A ++ [[.sl r]]) ++ idF (b + 1) (us.map (·.length)))) :: (fam (b + 1) (us.map fun r => .vec e sz (rowsD r)) ++ rest) }) ⟨rfl, fun x => ?_, rfl, fun x => ?_⟩)
      (Wk.trans (Wk.frzFamF rest us (b + 1) (A ++ [[.sl r]]) _ (by omega) (fun p hp => outD_succ (he p hp)) (fun i ob hi => by have := hr i ob hi; simp only [List.length_cons] at this; omega) rfl) ?_)
    · show getK (s.frz b r [j]).obs x = _
      simp only [St.frz, St.frzS]
      rw [getK_frzO, h]
      have hfr : VL.frzObS (fzVec b r) (.vec e2 1 (rowsD A ++ idF b ((r :: us).map (·.length)))) = .vec e2 1 (rowsD (A ++ [[.sl r]]) ++ idF (b + 1) (us.map (·.length))) := by
        simp only [VL.frzObS, List.map_append, frz_rowsD, List.map_cons, idF, List.map_nil]
        simp only [rowsD, List.map_append, List.map_cons, List.map_nil, List.append_assoc]
        congr 2
        have h1 : VL.frzS (fzVec b r) (.vec b r.length) = .u (.sl r) := by
          simp only [VL.frzS, fv, fzVec]
          rw [if_pos ⟨trivial, Nat.le_refl _⟩]
          simp only
          rw [List.take_of_length_le (Nat.le_refl _)]
        rw [h1]
        simp only [List.cons_append, List.nil_append, List.cons.injEq, true_and]
        refine map_same fun q hq => map_same fun c hc => ?_
        obtain ⟨i, m, _, rfl⟩ := idF_mem hq
        simp at hc
        subst hc
        simp only [VL.frzS, fv, fzVec]
        rw [if_neg (by omega)]
      by_cases hxb : x = b
      · subst hxb
        rw [if_pos rfl, getK_cons, if_neg (by omega), getK_append, getK_fam, if_neg (by omega)]
        cases hq : getK rest x with
        | none => rfl
        | some ob => have := hr x ob hq; simp only [List.length_cons] at this; omega
      · rw [if_neg hxb]
        simp only [List.contains_cons, List.contains_nil, Bool.or_false, getK_cons]
        by_cases hxj : x = j
        · subst hxj
          simp only [if_true, Option.map_some, beq_self_eq_true, hfr]
        · have hbj : ¬ (x == j) = true := by simpa using hxj
          simp only [if_neg hxj, hbj, List.map_cons, fam, getK_append, getK_cons, if_neg hxb]
          cases getK (fam (b + 1) (us.map fun r => Ob.vec e sz (rowsD r))) x <;> cases getK rest x <;> rfl
    · show getK (s.env.map fun p => (p.1, VL.frzS (fzVec b r) p.2)) x = _
      rw [show (s.env.map fun p => (p.1, VL.frzS (fzVec b r) p.2)) = s.env from map_same fun p hp => by
        have := frz_outD (us := r) (he p hp) (Nat.le_refl b)
        simp only [VL.frz] at this
        rw [this]]
    · simp only [List.map_cons, List.append_assoc, List.cons_append, List.nil_append]
      exact .refl _
theorem Wk.frzFamE {Γ : Ctx} {s : St} (j b e2 e sz : Nat) (us : List (List (List U))) (rest : List (Nat × Ob)) (hj : j < b) (he : ∀ p ∈ s.env, outD b p.2) (hr : ∀ p ∈ rest, p.1 < b)
    (h : s.obs = (j, .vec e2 1 (idF b (us.map (·.length)))) :: (rest ++ fam b (us.map fun r => .vec e sz (rowsD r)))) : Wk Γ s { s with obs := (j, .vec e2 1 (rowsD (us.map fun r => [.sl r]))) :: rest } := by
  have hr2 : ∀ i ob, getK rest i = some ob → i < b := fun i ob hi => by
    obtain ⟨p, hp, e⟩ := List.mem_map.1 (getK_mem hi)
    have := hr p hp
    omega
  refine Wk.trans (Wk.eqo (s' := { s with obs := (j, .vec e2 1 (rowsD [] ++ idF b (us.map (·.length)))) :: (fam b (us.map fun r => .vec e sz (rowsD r)) ++ rest) }) ⟨rfl, fun x => ?_, rfl, fun x => rfl⟩) (Wk.frzFamF rest us b [] _ hj he (fun i ob hi => .inl (hr2 i ob hi)) rfl)
  rw [h]
  simp only [getK_cons, getK_append, rowsD, List.map_nil, List.nil_append]
  by_cases hx : x = j
  · simp [hx]
  · rw [if_neg hx, if_neg hx]
    cases hq : getK rest x with
    | none => cases getK (fam b (us.map fun r => Ob.vec e sz (List.map (fun r => List.map D.u r) r))) x <;> rfl
    | some ob =>
      have := hr2 x ob hq
      rw [getK_fam, if_neg (by omega)]
end Go.VL
