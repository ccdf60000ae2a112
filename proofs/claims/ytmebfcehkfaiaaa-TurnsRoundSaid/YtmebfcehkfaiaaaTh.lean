/- Layer 23, plain: the members that the program takes for valid are those of the reference. -/
import Derived.Test.YtmebfcehkfaiaaaTg
set_option linter.all false
set_option maxRecDepth 100000
set_option maxHeartbeats 8000000
set_option linter.all false
namespace Go.Proofs.Ytmebfcehkfaiaaa
open Go Go.VL
theorem compact_iff (zs : List Int) : (Lib.compact zs).length = zs.length ↔ ∀ j, (h : j + 1 < zs.length) → zs[j + 1] ≠ zs[j] := by
  unfold Lib.compact Lib.compactUpTo
  rw [List.length_map]
  have h1 : ((List.range zs.length).filter (Lib.keeps zs.toArray)).length = zs.length ↔ ∀ j ∈ List.range zs.length, Lib.keeps zs.toArray j = true := by
    rw [← List.length_filter_eq_length_iff (l := List.range zs.length), List.length_range]
  rw [h1]
  constructor
  · intro h j hj
    have := h (j + 1) (List.mem_range.2 hj)
    simp only [Lib.keeps, decide_eq_true_eq] at this
    rcases this with h2 | h2
    · omega
    · simpa [hj, show j < zs.length by omega] using h2
  · intro h j hj
    have hj := List.mem_range.1 hj
    simp only [Lib.keeps, decide_eq_true_eq]
    rcases j with _ | j
    · exact .inl rfl
    · right
      have := h j hj
      simpa [hj, show j < zs.length by omega] using this
theorem sortS_sorted (l : List Int) : (sortS l).Pairwise (· ≤ ·) := by
  have := List.pairwise_mergeSort (le := fun (x y : Int) => decide (x ≤ y)) (fun a b c h1 h2 => by simp at *; omega) (fun a b => by simp; omega) l
  simpa [sortS] using this
theorem sortS_perm (l : List Int) : (sortS l).Perm l := List.mergeSort_perm l _
theorem nodup_sorted {zs : List Int} (hs : zs.Pairwise (· ≤ ·)) : zs.Nodup ↔ ∀ j, (h : j + 1 < zs.length) → zs[j + 1] ≠ zs[j] := by
  constructor
  · intro h j hj
    exact (List.pairwise_iff_getElem.1 h j (j + 1) (by omega) hj (by omega)).symm
  · intro h
    refine List.pairwise_iff_getElem.2 fun i j hi hj hij => ?_
    have h1 := List.pairwise_iff_getElem.1 hs i (i + 1)
    have h2 : zs[i + 1]'(by omega) ≤ zs[j] := by
      rcases Nat.lt_or_ge (i + 1) j with h3 | h3
      · exact List.pairwise_iff_getElem.1 hs (i + 1) j (by omega) hj h3
      · obtain rfl : j = i + 1 := by omega
        exact Int.le_refl _
    have h3 := h1 hi (by omega) (by omega)
    have h4 := h i (by omega)
    omega
theorem validB_eq (l : List Int) (kind : Int) : validB l kind = (rightS l && decide (0 ≤ kind) && decide (kind < 3)) := by
  have h : decide ((Lib.compact (sortS l)).length = l.length) = decide l.Nodup := by
    have hl : (sortS l).length = l.length := (sortS_perm l).length_eq
    rw [decide_eq_decide, ← hl, compact_iff, ← nodup_sorted (sortS_sorted l)]
    exact (sortS_perm l).nodup_iff
  simp only [validB, rightS, h]
def orderS (l : List Int) (kind seed : Int) : List Int := if validB l kind = true then (if kind = 1 then (drawS seed l.length l.length).map fun j => l.getD j.toNat 0 else l) else []
end Go.Proofs.Ytmebfcehkfaiaaa
