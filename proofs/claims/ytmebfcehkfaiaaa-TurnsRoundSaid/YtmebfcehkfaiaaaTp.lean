/- Layer 23, plain: what is drawn. -/
import Derived.IntWalk
set_option linter.all false
set_option maxRecDepth 100000
set_option maxHeartbeats 8000000
set_option linter.all false
namespace Go.Proofs.Ytmebfcehkfaiaaa
def nxS (x : Int) : Int := (1103515245 * x + 12345) % 2147483648
def xsS (s : Int) : Nat → Int
  | 0 => s % 2147483648
  | i + 1 => nxS (xsS s i)
theorem xsS_range (s : Int) : ∀ i, 0 ≤ xsS s i ∧ xsS s i < 2147483648
  | 0 => by simp only [xsS]; omega
  | i + 1 => by simp only [xsS, nxS]; omega
def drawJ (s : Int) (n i : Nat) : Nat := i + (xsS s (i + 1) / 65536 % ((n : Int) - i)).toNat
theorem drawJ_range (s : Int) {n i : Nat} (h : i < n) : i ≤ drawJ s n i ∧ drawJ s n i < n := by
  have h1 := Int.emod_nonneg (xsS s (i + 1) / 65536) (show ((n : Int) - i) ≠ 0 by omega)
  have h2 := Int.emod_lt_of_pos (xsS s (i + 1) / 65536) (show 0 < ((n : Int) - i) by omega)
  unfold drawJ
  omega
theorem drawJ_eq (s : Int) {n i : Nat} (h : i < n) : (i : Int) + (xsS s (i + 1) / 65536).tmod ((n : Int) - i) = (drawJ s n i : Int) := by
  have h0 := xsS_range s (i + 1)
  rw [Int.tmod_eq_emod_of_nonneg (by omega)]
  have h1 := Int.emod_nonneg (xsS s (i + 1) / 65536) (show ((n : Int) - i) ≠ 0 by omega)
  unfold drawJ
  omega
def swp (l : List Int) (i j : Nat) : List Int := (l.set i (l.getD j 0)).set j (l.getD i 0)
def drawG (s : Int) (n : Nat) : Nat → List Int
  | 0 => (List.range n).map Int.ofNat
  | i + 1 => swp (drawG s n i) i (drawJ s n i)
theorem drawG_length (s : Int) (n : Nat) : ∀ i, (drawG s n i).length = n
  | 0 => by simp [drawG]
  | i + 1 => by simp [drawG, swp, drawG_length s n i]
def drawS (s n k : Int) : List Int := if n < 0 ∨ 4000 < n ∨ k < 0 ∨ n < k then [] else (drawG s n.toNat k.toNat).take k.toNat
theorem swp_perm {l : List Int} {i j : Nat} (hi : i < l.length) (hj : j < l.length) : (swp l i j).Perm l := by
  refine List.perm_iff_count.2 fun a => ?_
  have hg : ∀ k (h : k < l.length), l.getD k 0 = l[k] := fun k h => by simp [h]
  unfold swp
  rw [hg i hi, hg j hj, List.count_set (by simpa using hj), List.count_set hi]
  have hc1 : 0 < List.count l[i] l := List.count_pos_iff.2 (List.getElem_mem hi)
  have hc2 : 0 < List.count l[j] l := List.count_pos_iff.2 (List.getElem_mem hj)
  have e : (l.set i l[j])[j]'(by simpa using hj) = l[j] := by
    by_cases h : i = j
    · subst h; simp
    · simp [h]
  rw [e]
  by_cases h1 : l[i] = a <;> by_cases h2 : l[j] = a
  · subst h1; simp [h2]
  · have h2' : ¬ (l[j] == a) = true := by simpa using h2
    subst h1; simp [h2]
  · have h1' : ¬ (l[i] == a) = true := by simpa using h1
    subst h2; simp [h1]
  · simp [h1, h2]
theorem drawG_perm (s : Int) (n : Nat) : ∀ i, i ≤ n → (drawG s n i).Perm ((List.range n).map Int.ofNat)
  | 0, _ => .refl _
  | i + 1, h => by
    have := drawJ_range s (show i < n by omega)
    refine (swp_perm (by rw [drawG_length]; omega) (by rw [drawG_length]; omega)).trans (drawG_perm s n i (by omega))
theorem drawG_take (s : Int) (n : Nat) {i : Nat} : ∀ k, i ≤ k → k ≤ n → (drawG s n k).take i = (drawG s n i).take i := by
  intro k hik
  induction hik with
  | refl => intro _; rfl
  | step h ih =>
    rename_i m
    intro hm
    rw [← ih (by omega)]
    have hj := drawJ_range s (show m < n by omega)
    have hm' : i ≤ m := h
    simp only [drawG, swp]
    rw [List.take_set_of_le (by omega), List.take_set_of_le (by omega)]
end Go.Proofs.Ytmebfcehkfaiaaa
