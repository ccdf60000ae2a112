/- Plain arithmetic: quotients rounded down, products of two words, a quotient by a thousand. -/
import Derived.Laws.Bits64
import Derived.IntWalk
set_option linter.all false
namespace Go.Pm
theorem fdiv_of {a b q r : Int} (h : a = b * q + r) (hp : 0 < b → 0 ≤ r ∧ r < b) (hn : b < 0 → b < r ∧ r ≤ 0) (hb : b ≠ 0) : a.fdiv b = q := by
  rcases Int.lt_or_gt_of_ne hb with h0 | h0
  · obtain ⟨h1, h2⟩ := hn h0
    have e1 : a.fdiv b = (-a).fdiv (-b) := by rw [Int.neg_fdiv_neg]
    rw [e1, Int.fdiv_eq_ediv_of_nonneg _ (by omega)]
    have e2 : -a = -r + (-b) * q := by rw [h, Int.neg_mul]; omega
    rw [e2, Int.add_mul_ediv_left _ _ (by omega), Int.ediv_eq_zero_of_lt (by omega) (by omega)]
    omega
  · obtain ⟨h1, h2⟩ := hp h0
    rw [Int.fdiv_eq_ediv_of_nonneg _ (by omega), h, Int.add_comm, Int.add_mul_ediv_left _ _ (by omega), Int.ediv_eq_zero_of_lt h1 h2]
    omega
theorem tdiv_parts (a b : Int) (hb : b ≠ 0) : a = b * a.tdiv b + a.tmod b ∧ (0 ≤ a → 0 ≤ a.tmod b) ∧ (a ≤ 0 → a.tmod b ≤ 0) ∧ (0 < b → -b < a.tmod b ∧ a.tmod b < b) ∧ (b < 0 → b < a.tmod b ∧ a.tmod b < -b) := by
  have h1 := Int.mul_tdiv_add_tmod a b
  have h2 : (a.tmod b).natAbs < b.natAbs := by rw [Int.natAbs_tmod]; exact Nat.mod_lt _ (by omega)
  refine ⟨h1.symm, fun h => Int.tmod_nonneg b h, fun h => ?_, fun h => by omega, fun h => by omega⟩
  have := Int.tmod_nonneg (a := -a) b (by omega)
  rw [Int.neg_tmod] at this
  omega
theorem tdiv_le (a b : Int) (ha : -1099511627776 ≤ a) (ha2 : a ≤ 1099511627776) : -1099511627776 ≤ a.tdiv b ∧ a.tdiv b ≤ 1099511627776 := by
  have h : (a.tdiv b).natAbs ≤ a.natAbs := by rw [Int.natAbs_tdiv]; exact Nat.div_le_self _ _
  omega
/-- Go's '/' with the correction for unlike signs is the quotient rounded down. -/
theorem floor_eq (a b : Int) (hb : b ≠ 0) : a.fdiv b = if a.tmod b ≠ 0 ∧ ¬ (a < 0 ↔ b < 0) then a.tdiv b - 1 else a.tdiv b := by
  obtain ⟨h1, h2, h3, h4, h5⟩ := tdiv_parts a b hb
  split
  · rename_i hc
    refine fdiv_of (r := a.tmod b + b) (by rw [Int.mul_sub]; omega) (fun h => ?_) (fun h => ?_) hb
    · have := h4 h; have := h3 (by omega); omega
    · have := h5 h; have := h2 (by omega); omega
  · rename_i hc
    refine fdiv_of (r := a.tmod b) h1 (fun h => ?_) (fun h => ?_) hb
    · have := h4 h
      by_cases h0 : a < 0
      · have : a.tmod b = 0 := Classical.byContradiction fun hh => hc ⟨hh, by omega⟩
        omega
      · have := h2 (by omega); omega
    · have := h5 h
      by_cases h0 : a < 0
      · have := h3 (by omega); omega
      · have : a.tmod b = 0 := by
          by_cases ha : a = 0
          · subst ha; simp
          · exact Classical.byContradiction fun hh => hc ⟨hh, by omega⟩
        omega
end Go.Pm
