/- Layer 23, plain: rounds, and turns by need. -/
import Derived.Test.YtmebfcehkfaiaaaTk
set_option linter.all false
set_option maxRecDepth 100000
set_option maxHeartbeats 8000000
set_option linter.all false
namespace Go.Proofs.Ytmebfcehkfaiaaa
open Go Go.VL
def pickS (l had : List Int) (kind seed : Int) (m : Nat) : Nat :=
  if kind = 2 then lst had else if kind = 1 then ((drawG seed l.length l.length).getD (m % l.length) 0).toNat else m % l.length
theorem drawS_full (seed : Int) {n : Nat} (h : n ≤ 4000) : drawS seed n n = drawG seed n n := by
  rw [drawS, if_neg (by omega)]
  simp only [Int.toNat_natCast]
  rw [List.take_of_length_le (by rw [drawG_length]; exact Nat.le_refl _)]
theorem drawG_get (seed : Int) (n : Nat) {m : Nat} (h : m < n) : ∃ Z : Nat, (drawG seed n n)[m]? = some (Z : Int) ∧ Z < n := by
  have hm : m < (drawG seed n n).length := by rw [drawG_length]; exact h
  have := (drawG_perm seed n n (Nat.le_refl _)).mem_iff.1 (List.getElem_mem hm)
  obtain ⟨Z, hZ, e⟩ := List.mem_map.1 this
  exact ⟨Z, by rw [List.getElem?_eq_getElem hm, ← e]; rfl, List.mem_range.1 hZ⟩
theorem drawG_nodup (seed : Int) (n : Nat) : (drawG seed n n).Nodup := by
  refine (drawG_perm seed n n (Nat.le_refl _)).nodup_iff.2 ?_
  refine List.pairwise_map.2 ?_
  exact List.Pairwise.imp (fun h e => h (Int.ofNat.inj e)) List.nodup_range
theorem rightS_len {l : List Int} (h : rightS l = true) : l.length ≤ 60 := by simp [rightS] at h; omega
theorem rightS_nodup {l : List Int} (h : rightS l = true) : l.Nodup := by simp [rightS] at h; exact h.2
theorem idxS_get {l : List Int} (hd : l.Nodup) {i : Nat} (hi : i < l.length) : idxS l (l.getD i 0) = i := by
  have hx : l[i]? = some (l.getD i 0) := by simp [hi]
  refine idx_here hx fun y hy e => ?_
  obtain ⟨k, hk, e2⟩ := List.mem_iff_getElem.1 hy
  rw [List.length_take] at hk
  rw [List.getElem_take] at e2
  have hk2 : l[k]? = some (l.getD i 0) := by rw [List.getElem?_eq_getElem (by omega), e2, e]
  exact not_nodup hx hk2 (by omega) hd
theorem nextS_pick {l had : List Int} {kind seed : Int} {m : Nat} (h1 : rightS l = true) (h2 : l ≠ []) (h3 : had.length = l.length) (h4 : 0 ≤ kind) (h5 : kind < 3) (h6 : 0 ≤ minS had) :
    nextS l had kind seed (m : Int) = (l.getD (pickS l had kind seed m) 0, true) ∧ pickS l had kind seed m < l.length := by
  have hok : okN l had kind (m : Int) = true := by simp [okN, h1, h2, h3, h4, h5, h6]
  have hp : 0 < l.length := List.length_pos_iff.2 h2
  have hv : validB l kind = true := by rw [validB_eq]; simp [h1, h4, h5]
  have hm : m % l.length < l.length := Nat.mod_lt _ hp
  have h60 := rightS_len h1
  unfold nextS
  rw [if_pos hok]
  by_cases hk2 : kind = 2
  · have : had ≠ [] := fun h => by rw [h] at h3; simp at h3; omega
    have := lst_lt this
    simp only [pickS, hk2, if_true]
    exact ⟨trivial, by omega⟩
  · by_cases hk1 : kind = 1
    · obtain ⟨Z, hZ, hZn⟩ := drawG_get seed l.length hm
      have hd := drawS_full seed (show l.length ≤ 4000 by omega)
      rw [if_neg hk2]
      unfold orderS pickS
      rw [if_pos hv, if_pos hk1, if_neg hk2, if_pos hk1, hd]
      simp [hZ, hZn, List.getD_eq_getElem?_getD]
    · rw [if_neg hk2]
      unfold orderS pickS
      rw [if_pos hv, if_neg hk1, if_neg hk2, if_neg hk1]
      simp [hm]
/-- Whose turn it is in the p-th period of a round. -/
def rnd (l : List Int) (kind seed : Int) (first p : Nat) : Nat := if kind = 2 then p else pickS l [] kind seed (first + p)
theorem mod_inj {a n p q : Nat} (hp : p < n) (hq : q < n) (h : (a + p) % n = (a + q) % n) : p = q := by
  have hn : 0 < n := by omega
  have hr := Nat.mod_lt a hn
  have key : ∀ p, p < n → (a + p) % n = a % n + p ∨ (a + p) % n + n = a % n + p := fun p hp => by
    rw [← Nat.mod_add_mod]
    rcases Nat.lt_or_ge (a % n + p) n with h | h
    · left; exact Nat.mod_eq_of_lt h
    · right
      rw [Nat.mod_eq_sub_mod h, Nat.mod_eq_of_lt (by omega)]
      omega
  have h1 := key p hp
  have h2 := key q hq
  omega
theorem mod_surj {a n i : Nat} (hi : i < n) : ∃ p, p < n ∧ (a + p) % n = i := by
  have hn : 0 < n := by omega
  have hr := Nat.mod_lt a hn
  rcases Nat.lt_or_ge i (a % n) with h | h
  · refine ⟨n + i - a % n, by omega, ?_⟩
    rw [← Nat.mod_add_mod, show a % n + (n + i - a % n) = i + n by omega, Nat.add_mod_right, Nat.mod_eq_of_lt hi]
  · refine ⟨i - a % n, by omega, ?_⟩
    rw [← Nat.mod_add_mod, show a % n + (i - a % n) = i by omega, Nat.mod_eq_of_lt hi]
theorem rnd_lt {l : List Int} {kind seed : Int} {first p : Nat} (hp : p < l.length) : rnd l kind seed first p < l.length := by
  have hm : (first + p) % l.length < l.length := Nat.mod_lt _ (by omega)
  unfold rnd pickS
  by_cases h2 : kind = 2
  · simp [h2, hp]
  · by_cases h1 : kind = 1
    · obtain ⟨Z, hZ, hZn⟩ := drawG_get seed l.length hm
      simp [h2, h1, hZ, hZn]
    · simp [h2, h1, hm]
theorem rnd_inj {l : List Int} {kind seed : Int} {first p q : Nat} (hp : p < l.length) (hq : q < l.length) (h : rnd l kind seed first p = rnd l kind seed first q) : p = q := by
  have hm : (first + p) % l.length < l.length := Nat.mod_lt _ (by omega)
  have hm2 : (first + q) % l.length < l.length := Nat.mod_lt _ (by omega)
  unfold rnd pickS at h
  by_cases h2 : kind = 2
  · simpa [h2] using h
  · by_cases h1 : kind = 1
    · obtain ⟨Z, hZ, hZn⟩ := drawG_get seed l.length hm
      obtain ⟨Y, hY, hYn⟩ := drawG_get seed l.length hm2
      simp [h2, h1, hZ, hY] at h
      subst h
      refine mod_inj (a := first) hp hq ?_
      rcases Nat.lt_trichotomy ((first + p) % l.length) ((first + q) % l.length) with h3 | h3 | h3
      · exact absurd (drawG_nodup seed l.length) (not_nodup hY hZ h3)
      · exact h3
      · exact absurd (drawG_nodup seed l.length) (not_nodup hZ hY h3)
    · simp [h2, h1] at h
      exact mod_inj hp hq h
theorem rnd_surj {l : List Int} {kind seed : Int} {first i : Nat} (hi : i < l.length) : ∃ p, p < l.length ∧ rnd l kind seed first p = i := by
  unfold rnd pickS
  by_cases h2 : kind = 2
  · exact ⟨i, hi, by simp [h2]⟩
  · by_cases h1 : kind = 1
    · have hmem : (i : Int) ∈ drawG seed l.length l.length := (drawG_perm seed l.length l.length (Nat.le_refl _)).mem_iff.2 (List.mem_map.2 ⟨i, List.mem_range.2 hi, rfl⟩)
      obtain ⟨m, hm, e⟩ := List.mem_iff_getElem.1 hmem
      rw [drawG_length] at hm
      obtain ⟨p, hp, rfl⟩ := mod_surj (a := first) hm
      exact ⟨p, hp, by simp [h2, h1, drawG_length, hm, e]⟩
    · obtain ⟨p, hp, e⟩ := mod_surj (a := first) hi
      exact ⟨p, hp, by simp [h2, h1, e]⟩
def hadL (n : Nat) (each : Int) (t : Nat → Nat) (p : Nat) : List Int := (List.range n).map fun i => if i ∈ (List.range p).map t then each + 1 else each
theorem hadL_len (n : Nat) (each : Int) (t : Nat → Nat) (p : Nat) : (hadL n each t p).length = n := by simp [hadL]
theorem hadL_zero (n : Nat) (each : Int) (t : Nat → Nat) : hadL n each t 0 = List.replicate n each := by
  apply List.ext_getElem?
  intro j
  by_cases hj : j < n <;> simp [hadL, hj]
theorem hadL_get {n : Nat} {each : Int} {t : Nat → Nat} {p : Nat} (ht : t p < n) (hi : ∀ q, q < p → t q ≠ t p) : (hadL n each t p)[t p]? = some each := by
  have : ¬ t p ∈ (List.range p).map t := fun h => by
    obtain ⟨q, hq, e⟩ := List.mem_map.1 h
    exact hi q (List.mem_range.1 hq) e
  simp only [hadL, List.getElem?_map, List.getElem?_range ht, Option.map_some, if_neg this]
theorem hadL_step {n : Nat} {each : Int} {t : Nat → Nat} {p : Nat} (ht : t p < n) : (hadL n each t p).set (t p) (each + 1) = hadL n each t (p + 1) := by
  apply List.ext_getElem?
  intro j
  simp only [hadL, List.getElem?_set, List.length_map, List.length_range, List.getElem?_map]
  by_cases hj : t p = j
  · subst hj
    simp [ht]
    intro h
    exact absurd rfl (h p (by omega))
  · rw [if_neg hj]
    by_cases hj2 : j < n
    · rw [List.getElem?_range hj2]
      simp only [Option.map_some, List.range_succ, List.map_append, List.mem_append, List.map_cons, List.map_nil, List.mem_singleton]
      have : ¬ j = t p := fun e => hj e.symm
      simp [this]
    · rw [List.getElem?_eq_none (by simpa using hj2)]; rfl
theorem hadL_full {n : Nat} {each : Int} {t : Nat → Nat} (h : ∀ i, i < n → ∃ p, p < n ∧ t p = i) : hadL n each t n = List.replicate n (each + 1) := by
  apply List.ext_getElem?
  intro j
  by_cases hj : j < n
  · obtain ⟨p, hp, e⟩ := h j hj
    have : j ∈ (List.range n).map t := List.mem_map.2 ⟨p, List.mem_range.2 hp, e⟩
    simp only [hadL, List.getElem?_map, List.getElem?_range hj, Option.map_some, if_pos this]
    simp [hj]
  · simp [hadL, hj]
theorem hadL_mem {n : Nat} {each : Int} {t : Nat → Nat} {p : Nat} {x : Int} (h : x ∈ hadL n each t p) : x = each ∨ x = each + 1 := by
  obtain ⟨i, _, e⟩ := List.mem_map.1 h
  split at e <;> omega
/-- By need, a round goes through the members as they joined. -/
theorem hadL_lst {n : Nat} {each : Int} {p : Nat} (hp : p < n) : minS (hadL n each (fun q => q) p) = each ∧ lst (hadL n each (fun q => q) p) = p := by
  have hg : (hadL n each (fun q => q) p)[p]? = some each := hadL_get (t := fun q => q) hp (fun q hq => by omega)
  have hne : hadL n each (fun q => q) p ≠ [] := fun h => by rw [h] at hg; simp at hg
  have h1 := minS_le (List.mem_of_getElem? hg)
  have h2 := hadL_mem (minS_mem hne)
  have hm : minS (hadL n each (fun q => q) p) = each := by omega
  refine ⟨hm, ?_⟩
  have h3 := lst_first hne hg hm.symm
  have h4 := lst_get hne
  rw [hm] at h4
  have h5 := lst_lt hne
  rw [hadL_len] at h5
  rcases Nat.lt_or_ge (lst (hadL n each (fun q => q) p)) p with h6 | h6
  · generalize lst (hadL n each (fun q => q) p) = k at *
    simp only [hadL, List.getElem?_map, List.getElem?_range h5, Option.map_some] at h4
    rw [if_pos (by simp [h6])] at h4
    simp at h4
    omega
  · omega
theorem rnd_pick {l : List Int} {kind seed : Int} {each : Int} {first p : Nat} (hp : p < l.length) : pickS l (hadL l.length each (rnd l kind seed first) p) kind seed (first + p) = rnd l kind seed first p := by
  by_cases h2 : kind = 2
  · have e : rnd l kind seed first = fun q => q := by funext q; simp [rnd, h2]
    rw [e]
    simp only [pickS, h2, if_true]
    exact (hadL_lst hp).2
  · simp [rnd, pickS, h2]
-- by need
def stepL (had : List Int) : List Int := had.set (lst had) (minS had + 1)
theorem sum_set : ∀ (l : List Int) (i : Nat) (v x : Int), l[i]? = some x → (l.set i v).sum = l.sum - x + v
  | [], i, v, x, h => by simp at h
  | a :: l, 0, v, x, h => by
    simp at h; subst h
    simp only [List.set_cons_zero, List.sum_cons]; omega
  | a :: l, i + 1, v, x, h => by
    have := sum_set l i v x (by simpa using h)
    simp only [List.set_cons_succ, List.sum_cons, this]; omega
theorem stepL_sum {had : List Int} (h : had ≠ []) : (stepL had).sum = had.sum + 1 := by
  rw [stepL, sum_set _ _ _ _ (lst_get h)]; omega
theorem stepL_len (had : List Int) : (stepL had).length = had.length := by simp [stepL]
theorem stepL_mem {had : List Int} {x : Int} (h : x ∈ stepL had) : x ∈ had ∨ x = minS had + 1 := List.mem_or_eq_of_mem_set h
theorem stepL_ne {had : List Int} (h : had ≠ []) : stepL had ≠ [] := fun e => h (List.eq_nil_of_length_eq_zero (by rw [← stepL_len, e]; rfl))
theorem stepL_spread {had : List Int} (h : had ≠ []) : maxS (stepL had) - minS (stepL had) ≤ max 1 (maxS had - minS had) := by
  have h1 := stepL_mem (maxS_mem (stepL_ne h))
  have h2 := stepL_mem (minS_mem (stepL_ne h))
  have h3 : minS had ≤ minS (stepL had) := by
    rcases h2 with h2 | h2
    · exact minS_le h2
    · omega
  rcases h1 with h1 | h1
  · have := le_maxS h1; omega
  · omega
theorem sum_bound : ∀ (l : List Int) (b : Int), (∀ x ∈ l, 0 ≤ x ∧ x ≤ b) → 0 ≤ l.sum ∧ l.sum ≤ l.length * b
  | [], b, _ => by simp
  | a :: l, b, h => by
    have h1 := h a (by simp)
    have h2 := sum_bound l b fun x hx => h x (by simp [hx])
    simp only [List.sum_cons, List.length_cons]
    have h3 : ((l.length + 1 : Nat) : Int) * b = l.length * b + b := by rw [Int.natCast_add, Int.add_mul]; simp
    omega
theorem sum_take_succ {l : List Int} {i : Nat} {a : Int} (h : l[i]? = some a) : (l.take (i + 1)).sum = (l.take i).sum + a := by
  rw [take_snoc h]; simp
end Go.Proofs.Ytmebfcehkfaiaaa
