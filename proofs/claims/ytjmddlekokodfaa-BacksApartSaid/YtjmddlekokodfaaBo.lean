/- Layer 26: the law on what moving does: plain facts, the walk. -/
import Derived.Test.YtjmddlekokodfaaBn
import Derived.Test.YtjmddlekokodfaaBj
set_option linter.all false
set_option maxRecDepth 100000
set_option maxHeartbeats 8000000
set_option linter.all false
namespace Go.Proofs.Ytjmddlekokodfaa
open Go Go.VL
theorem withinS_in : ∀ (ls : List (List Int)) (v : Int), 0 ≤ withinS ls v → ∃ (x : Nat) (l : List Int), withinS ls v = x ∧ ls[x]? = some l ∧ v ∈ l
  | [], v, h => by simp [withinS] at h
  | m :: ls, v, h => by
    by_cases hm : v ∈ m
    · exact ⟨0, m, by rw [withinS, if_pos hm]; rfl, rfl, hm⟩
    · rw [withinS, if_neg hm] at h ⊢
      by_cases hn : withinS ls v < 0
      · rw [if_pos hn] at h; omega
      · obtain ⟨x, l, h1, h2, h3⟩ := withinS_in ls v (by omega)
        rw [if_neg hn]
        exact ⟨x + 1, l, by omega, by simpa using h2, h3⟩
theorem withinS_out {ls : List (List Int)} {v : Int} (h : withinS ls v < 0) : ∀ l ∈ ls, v ∉ l := fun l hl hv => by
  induction ls with
  | nil => simp at hl
  | cons m ls ih =>
    rw [withinS] at h
    split at h
    · omega
    · rename_i hm
      split at h
      · rename_i hn
        rcases List.mem_cons.1 hl with rfl | hl
        · exact hm hv
        · exact ih hn hl
      · omega
/-- The level of a member. -/
def lvOf (n : Nat) (B : List (List Int)) (d i : Nat) : Int := withinS ((levelsOf n B d).map nats) i
theorem lvOf_in {n B d i} (h : 0 ≤ lvOf n B d i) : ∃ (x : Nat) (l : List Nat), lvOf n B d i = x ∧ (levelsOf n B d)[x]? = some l ∧ i ∈ l := by
  obtain ⟨x, m, h1, h2, h3⟩ := withinS_in _ _ h
  rw [List.getElem?_map] at h2
  cases hq : (levelsOf n B d)[x]? with
  | none => rw [hq] at h2; cases h2
  | some l => rw [hq] at h2; cases h2; exact ⟨x, l, h1, hq, (mem_nats i l).1 h3⟩
theorem lvOf_out {n B d i} (h : lvOf n B d i < 0) : ∀ l ∈ levelsOf n B d, i ∉ l := fun l hl hi => withinS_out h (nats l) (List.mem_map.2 ⟨l, hl, rfl⟩) ((mem_nats i l).2 hi)
section
variable {n : Nat} {B : List (List Int)} {D M0 : Nat → Int} (hM : OkM n M0) (hD : ∀ d, d < n → 0 ≤ D d ∧ D d ≤ maxC)
include hM hD
theorem atM {d : Nat} (hd : d ≤ n) : OkM n (meansAt n B D M0 d) := meansAt_ok hM (fun d h => (hD d h).1) d hd
theorem paid_range {d i : Nat} (hd : d < n) (hi : i < n) : 0 ≤ paidAt n B D M0 i d ∧ paidAt n B D M0 i d ≤ meansAt n B D M0 d i := (goL_range (levelsOf_ok n B d) (atM hM hD (by omega)) (hD d hd).1).1 i hi
theorem left_range {d : Nat} (hd : d < n) : 0 ≤ leftAt n B D M0 d ∧ leftAt n B D M0 d ≤ D d := (goL_range (levelsOf_ok n B d) (atM hM hD (by omega)) (hD d hd).1).2
theorem rest_zero {d i : Nat} (hd : d < n) (hi : i < n) (h : paidAt n B D M0 i d = meansAt n B D M0 d i) : meansAt n B D M0 n i = 0 := by
  have h1 := meansAt_le (B := B) hM (fun d h => (hD d h).1) hi n (d + 1) (by omega) (Nat.le_refl _)
  have h2 := (atM (B := B) hM hD (Nat.le_refl n)).lo i hi
  have h3 : meansAt n B D M0 (d + 1) i = meansAt n B D M0 d i - paidAt n B D M0 i d := rfl
  omega
theorem paid_in {d i : Nat} (h : 0 < paidAt n B D M0 i d) : 0 ≤ lvOf n B d i := by
  rcases Int.lt_or_le (lvOf n B d i) 0 with h1 | h1
  · have : paidAt n B D M0 i d = 0 := goL_out (lvOf_out h1)
    omega
  · exact h1
theorem left_used {d i : Nat} (hd : d < n) (hi : i < n) (h : 0 < leftAt n B D M0 d) (hw : 0 ≤ lvOf n B d i) : meansAt n B D M0 n i = 0 := by
  obtain ⟨x, l, _, h2, h3⟩ := lvOf_in hw
  exact rest_zero hM hD hd hi (goL_used (levelsOf_ok n B d) (atM hM hD (by omega)) (hD d hd).1 h l (List.mem_of_getElem? h2) i h3)
theorem later_used {d i k : Nat} (hd : d < n) (hk : k < n) (h : 0 < paidAt n B D M0 i d) (hw : 0 ≤ lvOf n B d k) (hlt : lvOf n B d k < lvOf n B d i) : meansAt n B D M0 n k = 0 := by
  obtain ⟨x, l, h1, h2, h3⟩ := lvOf_in hw
  obtain ⟨y, m, h4, h5, h6⟩ := lvOf_in (paid_in hM hD h)
  exact rest_zero hM hD hd hk (goL_later (levelsOf_ok n B d) (atM hM hD (by omega)) (hD d hd).1 x y l m i k (by omega) h2 h5 h3 h6 h)
theorem fair_used {d i k : Nat} (hd : d < n) (hi : i < n) (hw : 0 ≤ lvOf n B d i) (he : lvOf n B d i = lvOf n B d k) (h : paidAt n B D M0 i d < paidAt n B D M0 k d - 1) : meansAt n B D M0 n i = 0 := by
  obtain ⟨x, l, h1, h2, h3⟩ := lvOf_in hw
  obtain ⟨y, m, h4, h5, h6⟩ := lvOf_in (he ▸ hw)
  obtain rfl : x = y := by omega
  rw [h2] at h5
  cases h5
  exact rest_zero hM hD hd hi (goL_fair (levelsOf_ok n B d) (atM hM hD (by omega)) (hD d hd).1 l (List.mem_of_getElem? h2) i h3 k h6 h)
theorem paid_sum {d : Nat} : leftAt n B D M0 d + (lst n fun i => paidAt n B D M0 i d).sum = D d := by
  have := goL_sum (M := meansAt n B D M0 d) (a := D d) (levelsOf_ok n B d)
  show (goL (levelsOf n B d) (meansAt n B D M0 d) (D d)).2 + (lst n (goL (levelsOf n B d) (meansAt n B D M0 d) (D d)).1).sum = D d
  omega
end
end Go.Proofs.Ytjmddlekokodfaa
