/- Layer 13, plain: the search of the program, and the one of the reference, whole. -/
import Derived.Test.YtdkadmchdocjbaaDc
set_option linter.all false
set_option maxRecDepth 100000
set_option maxHeartbeats 8000000
set_option linter.all false
namespace Go.Proofs.Ytdkadmchdocjbaa
theorem PM.steps {n : Nat} {l : List Con} {bg r all rest} {v : Nat} (hl : OkC n l) (hv : (v : Int) ∈ all) : ∀ (es : List Nat) {t st L}, (∀ i ∈ es, i ∈ fromS l v) → PM n l bg r all rest v es t st L →
    ∃ L', PM n l bg r all rest v [] (t + es.length) (es.foldl (relP l) st) L'
  | [], t, st, L, _, h => ⟨L, h⟩
  | i :: es, t, st, L, hm, h => by
    obtain ⟨c, h1, h2⟩ := mem_fromS.1 (hm i (by simp))
    obtain ⟨L1, h3⟩ := h.step hl h1 hv h2
    obtain ⟨L2, h4⟩ := PM.steps hl hv es (fun j hj => hm j (by simp [hj])) h3
    refine ⟨L2, ?_⟩
    rw [List.length_cons, ← Nat.add_assoc, Nat.add_right_comm]
    exact h4
theorem PM.visit {n : Nat} {l : List Con} {bg r all rest u t st L} {v : Int} (hl : OkC n l) (hv : v ∈ all) (h : PM n l bg r all (v :: rest) u [] t st L) : ∃ L', PM n l bg r all rest v.toNat [] (t + l.length) (visitP l st v) L' := by
  have hv0 := (h.all v hv).1
  obtain ⟨L', h1⟩ := PM.steps hl (by rw [Int.toNat_of_nonneg hv0]; exact hv) (fromS l v.toNat) (fun _ hi => hi) (h.next hl)
  exact ⟨L', h1.mono (by have := fromS_len l v.toNat; omega)⟩
theorem PM.visits {n : Nat} {l : List Con} {bg r all} (hl : OkC n l) : ∀ (rest : List Int) {u t st L}, (∀ x ∈ rest, x ∈ all) → PM n l bg r all rest u [] t st L → ∃ L' u', PM n l bg r all [] u' [] (t + rest.length * l.length) (rest.foldl (visitP l) st) L'
  | [], u, t, st, L, _, h => ⟨L, u, by simpa using h⟩
  | v :: rest, u, t, st, L, hm, h => by
    obtain ⟨L1, h1⟩ := h.visit hl (hm v (by simp))
    obtain ⟨L2, u2, h2⟩ := PM.visits hl rest (fun x hx => hm x (by simp [hx])) h1
    refine ⟨L2, u2, ?_⟩
    rw [List.length_cons, Nat.succ_mul, Nat.add_comm (rest.length * l.length), ← Nat.add_assoc]
    exact h2
theorem PI.round {n : Nat} {l : List Con} {bg r todo t g L} (hl : OkC n l) (h : PI n l bg r todo t g L) : ∃ L' u, PM n l bg r todo [] u [] (t + todo.length * l.length) (roundP l g todo) L' :=
  PM.visits hl todo (fun _ hx => hx) h.start
/-- The program's search. -/
def runP (nxt : List Int → List Int) (l : List Con) : Nat → GS → List Int → GS × Int
  | 0, g, todo => (g, todo.headD (-1))
  | f + 1, g, todo => if (roundP l g todo).2 = [] then ((roundP l g todo).1, -1) else runP nxt l f (roundP l g todo).1 (nxt (roundP l g todo).2)
theorem runP_out {n : Nat} {l : List Con} {bg} {nxt : List Int → List Int} (hl : OkC n l) (hn : ∀ z x, x ∈ nxt z ↔ x ∈ z) (hd : ∀ z, (∀ x ∈ z, 0 ≤ x ∧ x < (n : Int)) → (nxt z).length ≤ n) :
    ∀ (f r : Nat) {todo t g L}, PI n l bg r todo t g L → todo.length ≤ n → (f = 0 → todo ≠ []) → n < r + f → Outcome n l bg (t + f * (n * l.length)) (runP nxt l f g todo).1 (runP nxt l f g todo).2
  | 0, r, todo, t, g, L, h, hlen, h0, hr => by
    cases todo with
    | nil => exact absurd rfl (h0 rfl)
    | cons v todo =>
      obtain ⟨h1, h2, h3, h4⟩ := h.old v (by simp)
      rw [runP]
      refine ⟨h.inv, h.bd.mono (by omega), .inr ⟨h1, h2, L, h.rank, ?_⟩⟩
      show n < L v.toNat
      omega
  | f + 1, r, todo, t, g, L, h, hlen, h0, hr => by
    obtain ⟨L', u, h1⟩ := h.round hl
    have hk : t + todo.length * l.length ≤ t + n * l.length := Nat.add_le_add_left (Nat.mul_le_mul_right _ hlen) t
    have h2 := h1.mono hk
    rw [runP]
    by_cases he : (roundP l g todo).2 = []
    · rw [if_pos he]
      have e2 : roundP l g todo = ((roundP l g todo).1, []) := by rw [← he]
      have h3 : PM n l bg r todo [] u [] (t + n * l.length) ((roundP l g todo).1, []) L' := by rw [← e2]; exact h2
      exact ⟨h3.inv, h3.bd.mono (by rw [Nat.succ_mul]; omega), .inl ⟨rfl, h3.done⟩⟩
    · rw [if_neg he]
      have h3 := h2.fin (todo := nxt (roundP l g todo).2) (fun x => hn _ x)
      have h4 := runP_out hl hn hd f (r + 1) h3 (hd _ fun x hx => let ⟨a, b, _⟩ := h2.nx x hx; ⟨a, b⟩) (fun _ e => by
        obtain ⟨x, hx⟩ := List.exists_mem_of_ne_nil _ he
        have := (hn _ x).2 hx
        rw [e] at this
        cases this) (by omega)
      rw [Nat.succ_mul, Nat.add_comm (f * _), ← Nat.add_assoc]
      exact h4
/-- The reference's search. -/
def sweepR (l : List Con) (g : GS) : GS × Int := (List.range l.length).foldl (relR l) (g, -1)
theorem SM.steps {n : Nat} {l : List Con} {bg r t g L} (hl : OkC n l) (h : SI n l bg r t g L) : ∀ i, i ≤ l.length → ∃ L', SM n l bg r i (t + i) ((List.range i).foldl (relR l) (g, -1)) L'
  | 0, _ => ⟨L, h.start⟩
  | i + 1, hi => by
    obtain ⟨L', h1⟩ := SM.steps hl h i (by omega)
    obtain ⟨L2, h2⟩ := h1.step hl (List.getElem?_eq_getElem (by omega))
    refine ⟨L2, ?_⟩
    rw [List.range_succ, List.foldl_append]
    exact h2
theorem SI.sweep {n : Nat} {l : List Con} {bg r t g L} (hl : OkC n l) (h : SI n l bg r t g L) : ∃ L', SM n l bg r l.length (t + l.length) (sweepR l g) L' := SM.steps hl h l.length (Nat.le_refl _)
def loopR (l : List Con) : Nat → GS → GS × Int
  | 0, g => (g, 0)
  | f + 1, g => if f = 0 ∨ (sweepR l g).2 < 0 then sweepR l g else loopR l f (sweepR l g).1
theorem loopR_out {n : Nat} {l : List Con} {bg} (hl : OkC n l) : ∀ (f r : Nat) {t g L}, SI n l bg r t g L → n < r + f → 0 < f → Outcome n l bg (t + f * l.length) (loopR l f g).1 (loopR l f g).2
  | 0, r, t, g, L, h, hr, hf => by omega
  | f + 1, r, t, g, L, h, hr, hf => by
    obtain ⟨L', h1⟩ := h.sweep hl
    rw [loopR]
    by_cases he : f = 0 ∨ (sweepR l g).2 < 0
    · rw [if_pos he]
      have hb : Bd (t + (f + 1) * l.length) (sweepR l g).1 := h1.bd.mono (by rw [Nat.succ_mul]; omega)
      by_cases hneg : (sweepR l g).2 < 0
      · exact ⟨h1.inv, hb, .inl (h1.fix hneg)⟩
      · have hf0 : f = 0 := he.elim id (fun h => absurd h hneg)
        obtain ⟨a, b, c⟩ := h1.out (by omega)
        exact ⟨a, hb, c⟩
    · rw [if_neg he]
      have h4 := loopR_out hl f (r + 1) h1.fin (by omega) (by omega)
      rw [Nat.succ_mul, Nat.add_comm (f * _), ← Nat.add_assoc]
      exact h4
end Go.Proofs.Ytdkadmchdocjbaa
