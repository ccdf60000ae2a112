/- Layer 13, plain: what solving and the greatest difference give back. -/
import Derived.Test.YtdkadmchdocjbaaDd
set_option linter.all false
set_option maxRecDepth 100000
set_option maxHeartbeats 8000000
set_option linter.all false
namespace Go.Proofs.Ytdkadmchdocjbaa
def okB (n : Int) (c : Con) : Bool := decide (0 ≤ c.A) && decide (0 ≤ c.B) && decide (c.A < n) && decide (c.B < n) && decide (-maxN ≤ c.N) && decide (c.N ≤ maxN)
def rightL (l : List Con) (n : Int) : Bool := decide (0 ≤ n) && decide (n ≤ 200) && decide (l.length ≤ 2000) && l.all (okB n)
theorem rightL_out {l : List Con} {n : Int} (h : rightL l n = true) : n = (n.toNat : Int) ∧ n.toNat ≤ 200 ∧ l.length ≤ 2000 ∧ OkC n.toNat l := by
  simp only [rightL, Bool.and_eq_true, decide_eq_true_eq, List.all_eq_true] at h
  obtain ⟨⟨⟨h1, h2⟩, h3⟩, h4⟩ := h
  refine ⟨by omega, by omega, h3, fun c hc => ?_⟩
  have := h4 c hc
  simp only [okB, Bool.and_eq_true, decide_eq_true_eq] at this
  omega
theorem rightL_of {l : List Con} {n : Nat} (h2 : n ≤ 200) (h3 : l.length ≤ 2000) (h4 : OkC n l) : rightL l (n : Int) = true := by
  simp only [rightL, Bool.and_eq_true, decide_eq_true_eq, List.all_eq_true]
  refine ⟨⟨⟨by omega, by omega⟩, h3⟩, fun c hc => ?_⟩
  have := h4 c hc
  simp only [okB, Bool.and_eq_true, decide_eq_true_eq]
  omega
/-- How great the values of a search can be. -/
def bnd (n k : Nat) : Int := maxN * (((n + 1) * (n * k) : Nat) : Int)
def SolveSpec (l : List Con) (n : Int) (V C : List Int) (E : Int) : Prop :=
  (rightL l n = false ∧ V = [] ∧ C = [] ∧ E = 1) ∨
  (rightL l n = true ∧ ((∃ f, Great n.toNat l f ∧ (∀ x, -bnd n.toNat l.length ≤ f x ∧ f x ≤ bnd n.toNat l.length) ∧ V = lst n.toNat f ∧ C = [] ∧ E = 0) ∨
    ((∀ y, ¬ Sol l y) ∧ V = [] ∧ E = 23 ∧ CycOK n.toNat l C)))
theorem SolveSpec.one {l l' : List Con} {n : Int} {V C V' C' : List Int} {E E' : Int} (h : SolveSpec l n V C E) (h' : SolveSpec l' n V' C' E') (hl : ∀ c, c ∈ l ↔ c ∈ l') (hr : rightL l n = rightL l' n) : E = E' ∧ V = V' := by
  rcases h with ⟨a1, rfl, _, rfl⟩ | ⟨a1, h⟩ <;> rcases h' with ⟨b1, rfl, _, rfl⟩ | ⟨b1, h'⟩
  · exact ⟨rfl, rfl⟩
  · rw [hr, b1] at a1; cases a1
  · rw [hr, b1] at a1; cases a1
  · rcases h with ⟨f, g1, _, rfl, _, rfl⟩ | ⟨g1, rfl, rfl, _⟩ <;> rcases h' with ⟨f', g1', _, rfl, _, rfl⟩ | ⟨g1', rfl, rfl, _⟩
    · exact ⟨rfl, g1.one g1' hl⟩
    · exact absurd (fun c hc => g1.sol c ((hl c).2 hc)) (g1' f)
    · exact absurd (fun c hc => g1'.sol c ((hl c).1 hc)) (g1 f')
    · exact ⟨rfl, rfl⟩
theorem SolveSpec.bad {l : List Con} {n : Int} {V C : List Int} {E : Int} (h : SolveSpec l n V C E) : E = 0 ∨ V = [] := by
  rcases h with ⟨_, rfl, _, _⟩ | ⟨_, ⟨_, _, _, _, _, rfl⟩ | ⟨_, rfl, _, _⟩⟩
  · exact .inr rfl
  · exact .inl rfl
  · exact .inr rfl
/-- It can be satisfied exactly if Solve says so. -/
theorem SolveSpec.ok {l : List Con} {n : Int} {V C : List Int} {E : Int} (h : SolveSpec l n V C E) (hr : rightL l n = true) : (E = 0 ↔ ∃ y, Sol l y) ∧ (E = 0 ∨ E = 23) := by
  rcases h with ⟨h1, _⟩ | ⟨_, ⟨f, g, _, _, _, rfl⟩ | ⟨g, _, rfl, _⟩⟩
  · rw [hr] at h1; cases h1
  · exact ⟨⟨fun _ => ⟨f, g.sol⟩, fun _ => rfl⟩, .inl rfl⟩
  · exact ⟨⟨fun e => absurd e (by decide), fun ⟨y, hy⟩ => absurd hy (g y)⟩, .inr rfl⟩
def MostSpec (l : List Con) (n a b M : Int) (C : List Int) (E : Int) : Prop :=
  ((rightL l n && (decide (0 ≤ a) && decide (a < n) && (decide (0 ≤ b) && decide (b < n)))) = false ∧ M = 0 ∧ C = [] ∧ E = 1) ∨
  ((rightL l n && (decide (0 ≤ a) && decide (a < n) && (decide (0 ≤ b) && decide (b < n)))) = true ∧ (((∀ y, ¬ Sol l y) ∧ M = 0 ∧ C = [] ∧ E = 23) ∨
    ((∃ y, Sol l y) ∧ ∃ g, Inv l (bgOne b.toNat) g ∧ Fix l g ∧ (∀ x, -bnd n.toNat l.length ≤ g.val x ∧ g.val x ≤ bnd n.toNat l.length) ∧
      ((g.kn a.toNat = false ∧ M = 0 ∧ C = [] ∧ E = 4) ∨ (g.kn a.toNat = true ∧ M = g.val a.toNat ∧ E = 0 ∧ C.length < n.toNat ∧ sumS l b C = some (M, a))))))
theorem MostSpec.one {l : List Con} {n a b M M' : Int} {C C' : List Int} {E E' : Int} (h : MostSpec l n a b M C E) (h' : MostSpec l n a b M' C' E') : E = E' ∧ M = M' := by
  rcases h with ⟨a1, rfl, _, rfl⟩ | ⟨a1, h⟩ <;> rcases h' with ⟨b1, rfl, _, rfl⟩ | ⟨b1, h'⟩
  · exact ⟨rfl, rfl⟩
  · rw [b1] at a1; cases a1
  · rw [b1] at a1; cases a1
  · rcases h with ⟨g1, rfl, _, rfl⟩ | ⟨⟨y, hy⟩, g, hi, hf, _, h⟩ <;> rcases h' with ⟨g1', rfl, _, rfl⟩ | ⟨⟨y', hy'⟩, g', hi', hf', _, h'⟩
    · exact ⟨rfl, rfl⟩
    · exact absurd hy' (g1 y')
    · exact absurd hy (g1' y)
    · obtain ⟨e1, e2⟩ := hf.one hi hi' hf' (fun _ => Iff.rfl) a.toNat
      rcases h with ⟨k1, rfl, _, rfl⟩ | ⟨k1, rfl, rfl, _⟩ <;> rcases h' with ⟨k1', rfl, _, rfl⟩ | ⟨k1', rfl, rfl, _⟩
      · exact ⟨rfl, rfl⟩
      · rw [e1, k1'] at k1; cases k1
      · rw [e1, k1'] at k1; cases k1
      · exact ⟨rfl, e2 k1⟩
theorem OkC.snoc {n : Nat} {l : List Con} {c : Con} (h : OkC n l) (hc : 0 ≤ c.A ∧ c.A < n ∧ 0 ≤ c.B ∧ c.B < n ∧ -maxN ≤ c.N ∧ c.N ≤ maxN) : OkC n (l ++ [c]) := fun d hd => by
  rcases List.mem_append.1 hd with hd | hd
  · exact h d hd
  · simp at hd; subst hd; exact hc
theorem Sol.snoc {l : List Con} {c : Con} {y : Nat → Int} : Sol (l ++ [c]) y ↔ Sol l y ∧ y c.a ≤ y c.b + c.N := by
  constructor
  · intro h
    exact ⟨fun d hd => h d (by simp [hd]), h c (by simp)⟩
  · rintro ⟨h1, h2⟩ d hd
    rcases List.mem_append.1 hd with hd | hd
    · exact h1 d hd
    · simp at hd; subst hd; exact h2
/-- Without a chain, any difference can be required. -/
theorem most_free {l : List Con} {a b : Nat} {g : GS} {z : Nat → Int} (hi : Inv l (bgOne b) g) (hf : Fix l g) (hz : Sol l z) (ha : g.kn a = false) (d : Int) : ∃ y, Sol l y ∧ y b ≤ y a - d := by
  obtain ⟨y, h1, h2, K, h3, h4⟩ := lift_sol hi hf hz (g.val b + d - z a)
  have hb := (hi.beg b (by simp [bgOne])).1
  refine ⟨y, h1, ?_⟩
  rw [h2 b hb, h4 a ha]
  omega
/-- The greatest difference can be required. -/
theorem most_met {l : List Con} {a b : Nat} {g : GS} {z : Nat → Int} (hi : Inv l (bgOne b) g) (hf : Fix l g) (hz : Sol l z) (ha : g.kn a = true) : ∃ y, Sol l y ∧ y b ≤ y a - g.val a := by
  obtain ⟨y, h1, h2, K, h3, h4⟩ := lift_sol hi hf hz 0
  obtain ⟨hb, hb0⟩ := hi.beg b (by simp [bgOne])
  refine ⟨y, h1, ?_⟩
  rw [h2 b hb, h2 a ha]
  omega
-- the searches give what is specified
theorem solve_ok {n t : Nat} {l : List Con} {g : GS} (hr : rightL l (n : Int) = true) (h : Outcome n l (bgAll n) t g (-1)) (ht : t ≤ (n + 1) * (n * l.length)) : SolveSpec l n (lst n g.val) [] 0 := by
  obtain ⟨_, _, _, hl⟩ := rightL_out hr
  simp only [Int.toNat_natCast] at hl
  obtain ⟨hi, hb, h1 | ⟨h1, _⟩⟩ := h
  · refine .inr ⟨hr, .inl ⟨g.val, great_of hl hi h1.2, fun x => ?_, rfl, rfl, rfl⟩⟩
    have := (hb.mono ht) x
    unfold bnd
    simp only [Int.toNat_natCast]
    omega
  · omega
theorem solve_bad {n t : Nat} {l : List Con} {g : GS} {ret : Int} {C : List Int} (hr : rightL l (n : Int) = true) (h : Outcome n l (bgAll n) t g ret) (hret : ¬ ret = -1) (hC : CycOK n l C) : SolveSpec l n [] C 23 := by
  obtain ⟨_, _, _, hl⟩ := rightL_out hr
  simp only [Int.toNat_natCast] at hl
  exact .inr ⟨hr, .inr ⟨h.unsat hl hret, rfl, rfl, hC⟩⟩
theorem solve_arg {n : Int} {l : List Con} (hr : rightL l n = false) : SolveSpec l n [] [] 1 := .inl ⟨hr, rfl, rfl, rfl⟩
end Go.Proofs.Ytdkadmchdocjbaa
