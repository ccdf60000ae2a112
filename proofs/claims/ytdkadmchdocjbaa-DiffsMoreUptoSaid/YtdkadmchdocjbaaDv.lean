/- Layer 13, plain: the documented examples. -/
import Derived.Test.YtdkadmchdocjbaaDi
set_option linter.all false
set_option maxRecDepth 100000
set_option maxHeartbeats 8000000
set_option linter.all false
namespace Go.Proofs.Ytdkadmchdocjbaa
theorem Great.eq {n : Nat} {l : List Con} {f g : Nat → Int} (h : Great n l g) (hf : Sol l f) (hn : ∀ x, x < n → f x ≤ 0) (hu : ∀ y, Sol l y → (∀ x, x < n → y x ≤ 0) → ∀ x, x < n → y x ≤ f x) : lst n g = lst n f := by
  refine lst_ext fun x hx => ?_
  have h1 := h.most f hf hn x hx
  have h2 := hu g h.sol h.neg x hx
  omega
def exA : List Con := [⟨1, 0, -3⟩, ⟨2, 1, 1⟩]
def exB : List Con := [⟨1, 0, -3⟩, ⟨2, 1, 1⟩, ⟨0, 2, 1⟩]
def exF (x : Nat) : Int := if x = 1 then -3 else if x = 2 then -2 else 0
theorem exA_sol (y : Nat → Int) : Sol exA y ↔ y 1 ≤ y 0 - 3 ∧ y 2 ≤ y 1 + 1 := by
  constructor
  · intro h
    have h1 := h ⟨1, 0, -3⟩ (by simp [exA])
    have h2 := h ⟨2, 1, 1⟩ (by simp [exA])
    simp [Con.a, Con.b] at h1 h2
    omega
  · rintro ⟨h1, h2⟩ c hc
    simp only [exA, List.mem_cons, List.not_mem_nil, or_false] at hc
    rcases hc with rfl | rfl <;> simp [Con.a, Con.b] <;> omega
theorem exA_f : Sol exA exF := (exA_sol _).2 ⟨by decide, by decide⟩
theorem exA_right : rightL exA 3 = true := by decide
theorem exB_right : rightL exB 3 = true := by decide
theorem exA_solve {V C : List Int} {E : Int} (h : SolveSpec exA 3 V C E) : V = [0, -3, -2] ∧ C = [] ∧ E = 0 := by
  rcases h with ⟨h1, _⟩ | ⟨_, ⟨g, hg, _, rfl, rfl, rfl⟩ | ⟨h, _⟩⟩
  · rw [exA_right] at h1; cases h1
  · refine ⟨(hg.eq exA_f (fun x hx => ?_) fun y hy hn x hx => ?_).trans (by decide), rfl, rfl⟩
    · unfold exF; split
      · omega
      · split <;> omega
    · rw [exA_sol] at hy
      have := hn 0 (by decide)
      have hx3 : x < 3 := hx
      rcases (show x = 0 ∨ x = 1 ∨ x = 2 by omega) with rfl | rfl | rfl <;> simp [exF] <;> omega
  · exact absurd exA_f (h _)
theorem exB_solve {V C : List Int} {E : Int} (h : SolveSpec exB 3 V C E) : V = [] ∧ E = 23 ∧ CycOK 3 exB C := by
  rcases h with ⟨h1, _⟩ | ⟨_, ⟨g, hg, _, rfl, rfl, rfl⟩ | ⟨h, rfl, rfl, h2⟩⟩
  · rw [exB_right] at h1; cases h1
  · have h1 := hg.sol ⟨1, 0, -3⟩ (by simp [exB])
    have h2 := hg.sol ⟨2, 1, 1⟩ (by simp [exB])
    have h3 := hg.sol ⟨0, 2, 1⟩ (by simp [exB])
    simp [Con.a, Con.b] at h1 h2 h3
    omega
  · exact ⟨rfl, rfl, h2⟩
theorem idx_cases {i : Int} {m : Nat} (h : 0 ≤ i ∧ i < m) : ∃ k : Nat, k < m ∧ i = k := ⟨i.toNat, by omega, by omega⟩
/-- What refutes: a circle. -/
theorem CycOK.refute {n : Int} {l : List Con} {C : List Int} (hr : rightL l n = true) (h : CycOK n.toNat l C) : refuteB l n C = true := by
  obtain ⟨h1, h2, h3, s, u, h4, h5⟩ := h
  obtain ⟨e1, _⟩ := rightL_out hr
  unfold refuteB
  rw [hr]
  cases C with
  | nil => simp at h1
  | cons i r =>
    have h6 : ((i :: r).length : Int) ≤ n := by omega
    have h7 := h3 i (by simp)
    obtain ⟨k, hk, rfl⟩ := idx_cases h7
    have hc : l[k]? = some l[k] := List.getElem?_eq_getElem hk
    have h8 := h4
    rw [sumS_cons, if_pos h7.1, Int.toNat_natCast, hc] at h8
    simp only at h8
    by_cases hB : l[k].B = u
    · simp only [h6, decide_true, Bool.true_and]
      rw [if_pos h7.1, Int.toNat_natCast, hc]
      simp only [hB]
      rw [h4]
      simp [h5]
    · rw [if_neg hB] at h8; cases h8
theorem exB_len {C : List Int} (h : CycOK 3 exB C) : C.length = 3 := by
  obtain ⟨h1, h2, h3, s, u, h4, h5⟩ := h
  match C, h1, h2, h3, h4 with
  | [i], _, _, h3, h4 =>
    exfalso
    obtain ⟨k, hk, rfl⟩ := idx_cases (h3 i (by simp))
    have hk3 : k < 3 := hk
    rcases (show k = 0 ∨ k = 1 ∨ k = 2 by omega) with rfl | rfl | rfl <;> simp [sumS, exB] at h4 <;> omega
  | [i, j], _, _, h3, h4 =>
    exfalso
    obtain ⟨k, hk, rfl⟩ := idx_cases (h3 i (by simp))
    obtain ⟨q, hq, rfl⟩ := idx_cases (h3 j (by simp))
    have hk3 : k < 3 := hk
    have hq3 : q < 3 := hq
    rcases (show k = 0 ∨ k = 1 ∨ k = 2 by omega) with rfl | rfl | rfl <;> rcases (show q = 0 ∨ q = 1 ∨ q = 2 by omega) with rfl | rfl | rfl <;> simp [sumS, exB] at h4 <;> omega
  | [_, _, _], _, _, _, _ => rfl
theorem exA_most {M : Int} {C : List Int} {E : Int} (h : MostSpec exA 3 2 0 M C E) : M = -2 ∧ C = [0, 1] ∧ E = 0 := by
  rcases h with ⟨h1, _⟩ | ⟨_, ⟨h, _⟩ | ⟨_, g, hi, hf, _, h⟩⟩
  · exact absurd h1 (by decide)
  · exact absurd exA_f (h _)
  · have k0 := (hi.beg 0 (by decide)).1
    have k1 := (hf.step (c := ⟨1, 0, -3⟩) (by simp [exA]) k0).1
    have k2 := (hf.step (c := ⟨2, 1, 1⟩) (by simp [exA]) k1).1
    rcases h with ⟨h, _⟩ | ⟨_, _, hE, hl, hs⟩
    · exact absurd (h.symm.trans k2) (by decide)
    · have hl3 : C.length < 3 := hl
      have hd0 : ∀ u i r p, sumS exA u (i :: r) = some p → i = 0 ∧ u = 0 ∨ i = 1 ∧ u = 1 := fun u i r p hp => by
        rw [sumS_cons] at hp
        split at hp
        · rename_i hi0
          obtain ⟨k, rfl⟩ := Int.eq_ofNat_of_zero_le hi0
          rw [Int.toNat_natCast] at hp
          match k, hp with
          | 0, hp => simp [exA] at hp; omega
          | 1, hp => simp [exA] at hp; omega
          | k + 2, hp => simp [exA] at hp
        · cases hp
      have hd1 : ∀ r p, sumS exA 0 (0 :: r) = some p → ∃ q, sumS exA 1 r = some q ∧ p = (q.1 + -3, q.2) := fun r p h => by
        rw [show sumS exA 0 (0 :: r) = (sumS exA 1 r).map fun p => (p.1 + -3, p.2) from rfl] at h
        cases hq : sumS exA 1 r with
        | none => rw [hq] at h; cases h
        | some q => rw [hq] at h; exact ⟨q, rfl, by simpa using h.symm⟩
      match C, hl3, hs with
      | [], _, hs => simp [sumS] at hs
      | [i], _, hs =>
        rcases hd0 _ _ _ _ hs with ⟨rfl, _⟩ | ⟨_, h⟩
        · simp [sumS, exA] at hs
        · simp at h
      | [i, j], _, hs =>
        rcases hd0 _ _ _ _ hs with ⟨rfl, _⟩ | ⟨_, h⟩
        · obtain ⟨q, hq, hp⟩ := hd1 _ _ hs
          rcases hd0 _ _ _ _ hq with ⟨_, h⟩ | ⟨rfl, _⟩
          · cases h
          · have hq2 : sumS exA 1 [1] = some (1, 2) := rfl
            rw [hq2] at hq
            cases hq
            simp at hp
            exact ⟨by omega, rfl, hE⟩
        · simp at h
theorem exA_none {M : Int} {C : List Int} {E : Int} (h : MostSpec exA 3 0 2 M C E) : M = 0 ∧ C = [] ∧ E = 4 := by
  rcases h with ⟨h1, _⟩ | ⟨_, ⟨h, _⟩ | ⟨_, g, hi, hf, _, h⟩⟩
  · exact absurd h1 (by decide)
  · exact absurd exA_f (h _)
  · rcases h with ⟨_, h⟩ | ⟨hk, _⟩
    · exact h
    · have := (hi.low (fun x => x = 2) (fun _ => 0) ⟨fun x hx => by simpa [bgOne] using hx, fun c hc hb => by
        simp only [exA, List.mem_cons, List.not_mem_nil, or_false] at hc
        rcases hc with rfl | rfl <;> simp [Con.b] at hb⟩ _ hk).1
      simp at this
end Go.Proofs.Ytdkadmchdocjbaa
