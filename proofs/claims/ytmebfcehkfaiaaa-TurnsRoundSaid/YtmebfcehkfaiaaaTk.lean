/- Layer 23, plain: who comes next; the least and the greatest one; a round. -/
import Derived.Test.YtmebfcehkfaiaaaTh
set_option linter.all false
set_option maxRecDepth 100000
set_option maxHeartbeats 8000000
set_option linter.all false
namespace Go.Proofs.Ytmebfcehkfaiaaa
open Go Go.VL
def maxS : List Int → Int
  | [] => 0
  | a :: l => l.foldl max a
theorem maxS_snoc {l : List Int} (h : l ≠ []) (a : Int) : maxS (l ++ [a]) = max (maxS l) a := by
  cases l with
  | nil => exact absurd rfl h
  | cons b l => simp [maxS]
theorem foldl_min_le : ∀ (l : List Int) (a : Int), l.foldl min a ≤ a ∧ (∀ x ∈ l, l.foldl min a ≤ x) ∧ (l.foldl min a = a ∨ l.foldl min a ∈ l)
  | [], a => by simp
  | b :: l, a => by
    obtain ⟨h1, h2, h3⟩ := foldl_min_le l (min a b)
    simp only [List.foldl_cons]
    refine ⟨by omega, fun x hx => ?_, ?_⟩
    · rcases List.mem_cons.1 hx with rfl | h
      · omega
      · exact h2 x h
    · rcases h3 with h | h
      · by_cases hab : a ≤ b
        · left; rw [h]; omega
        · right; rw [h]; simp; left; omega
      · right; simp [h]
theorem foldl_max_le : ∀ (l : List Int) (a : Int), a ≤ l.foldl max a ∧ (∀ x ∈ l, x ≤ l.foldl max a) ∧ (l.foldl max a = a ∨ l.foldl max a ∈ l)
  | [], a => by simp
  | b :: l, a => by
    obtain ⟨h1, h2, h3⟩ := foldl_max_le l (max a b)
    simp only [List.foldl_cons]
    refine ⟨by omega, fun x hx => ?_, ?_⟩
    · rcases List.mem_cons.1 hx with rfl | h
      · omega
      · exact h2 x h
    · rcases h3 with h | h
      · by_cases hab : b ≤ a
        · left; rw [h]; omega
        · right; rw [h]; simp; left; omega
      · right; simp [h]
theorem minS_le {l : List Int} {x : Int} (h : x ∈ l) : minS l ≤ x := by
  cases l with
  | nil => simp at h
  | cons a l =>
    obtain ⟨h1, h2, _⟩ := foldl_min_le l a
    rcases List.mem_cons.1 h with rfl | h
    · exact h1
    · exact h2 x h
theorem minS_mem {l : List Int} (h : l ≠ []) : minS l ∈ l := by
  cases l with
  | nil => exact absurd rfl h
  | cons a l =>
    obtain ⟨_, _, h3⟩ := foldl_min_le l a
    simp only [minS]
    rcases h3 with h | h
    · rw [h]; simp
    · simp [h]
theorem le_maxS {l : List Int} {x : Int} (h : x ∈ l) : x ≤ maxS l := by
  cases l with
  | nil => simp at h
  | cons a l =>
    obtain ⟨h1, h2, _⟩ := foldl_max_le l a
    rcases List.mem_cons.1 h with rfl | h
    · exact h1
    · exact h2 x h
theorem maxS_mem {l : List Int} (h : l ≠ []) : maxS l ∈ l := by
  cases l with
  | nil => exact absurd rfl h
  | cons a l =>
    obtain ⟨_, _, h3⟩ := foldl_max_le l a
    simp only [maxS]
    rcases h3 with h | h
    · rw [h]; simp
    · simp [h]
/-- the first place of the least one -/
def lst (l : List Int) : Nat := l.idxOf (minS l)
theorem lst_lt {l : List Int} (h : l ≠ []) : lst l < l.length := List.idxOf_lt_length_iff.2 (minS_mem h)
theorem lst_get {l : List Int} (h : l ≠ []) : l[lst l]? = some (minS l) := by
  have h1 := lst_lt h
  rw [List.getElem?_eq_getElem h1]
  exact congrArg some (List.getElem_idxOf h1)
theorem idxS_min {l : List Int} (h : l ≠ []) : idxS l (minS l) = lst l := by
  rw [idxS, if_pos (minS_mem h)]; rfl
theorem lst_first {l : List Int} (h : l ≠ []) {k : Nat} {x : Int} (hk : l[k]? = some x) (hx : x = minS l) : lst l ≤ k := by
  rcases Nat.lt_or_ge k (lst l) with h1 | h1
  · exfalso
    have h2 := List.not_of_lt_findIdx (p := fun y => y == minS l) (xs := l) (i := k) (by simpa [lst, List.idxOf] using h1)
    obtain ⟨hk2, e⟩ := List.getElem?_eq_some_iff.1 hk
    simp [e, hx] at h2
  · exact h1
/-- Members, valid, of which one comes next. -/
def okN (l had : List Int) (kind period : Int) : Bool := rightS l && decide (l ≠ []) && decide (had.length = l.length) && decide (0 ≤ kind) && decide (kind < 3) && decide (0 ≤ period) && decide (0 ≤ minS had)
def nextS (l had : List Int) (kind seed period : Int) : Int × Bool :=
  if okN l had kind period = true then (if kind = 2 then l.getD (lst had) 0 else (orderS l kind seed).getD (period.toNat % l.length) 0, true) else (0, false)
theorem orderS_length {l : List Int} {kind seed : Int} (h : validB l kind = true) : (orderS l kind seed).length = l.length := by
  have h60 : l.length ≤ 60 := by rw [validB_eq] at h; simp [rightS] at h; omega
  simp only [orderS, h, if_true]
  split
  · rw [List.length_map, drawS, if_neg (by omega)]
    simp [drawG_length]
  · rfl
end Go.Proofs.Ytmebfcehkfaiaaa
