/- A new row of ints that a call gives back, told in the calculus. -/
import Derived.Test.YtdkadmchdocjbaaVLT
set_option linter.all false
set_option maxRecDepth 100000
set_option maxHeartbeats 8000000
set_option linter.all false
namespace Go.VL
open Go Go.Proofs
theorem Ret.ofNew {P : Program} {f : FuncId} {ds : List D} {t nx : Nat} {zs : List Int} (O : List (Nat × Ob))
    (h : ∀ (k : Kr) (own : Nat → Prop) (w : World) (vs : Array Value), Sat k own O w → RepL k ds vs → Calls P f vs w fun e w' => ∃ v, e = .returned v ∧ w'.ownsRow w.heap.size t 1 v zs.length (zs.map (Value.int .i64)) ∧ RowKit.Below w.heap.size w w') :
    Ret P f ds O nx fun d obs nx' => d = .vec nx zs.length ∧ obs = (nx, .vec t 1 (intR zs)) :: O ∧ nx' = nx + 1 := by
  intro k own w vs hsat hhdr hown hrep
  refine (h k own w vs hsat hrep).mono ?_
  rintro e w' ⟨v, rfl, hrow, hb⟩
  obtain ⟨hh, hhv, hge⟩ : ∃ h : Option Nat × Nat, v = headVal h zs.length ∧ ∀ b, h.1 = some b → w.heap.size ≤ b := by
    rcases hrow.2 with ⟨rfl, hn⟩ | ⟨g, cap, cur, rfl, hg, _⟩
    · exact ⟨(none, 0), by simp [headVal, hn], fun b e => by cases e⟩
    · exact ⟨(some g, cap), rfl, fun b e => by cases e; exact hg⟩
  subst hhv
  have hk0 : k.hdr nx = none := hhdr nx (Nat.le_refl _)
  have hmem : ∀ b, w.heap.size ≤ b → ∀ o, k.mem b o = none := fun b hb o => by
    cases hm : k.mem b o with
    | none => rfl
    | some x => have := hsat.memLt hm; omega
  have hold : ∀ b, b < w.heap.size → w'.heap[b]? = w.heap[b]? := hb.block
  have hblk : ∀ b, Blk k O b → b < w.heap.size := fun b hb => hsat.lt hb
  have hsat2 : Sat (k.add nx hh) own ((nx, .vec t 1 (intR zs)) :: O) w' := by
    refine Sat.add hsat hk0 (fun b e => ⟨hown b (hge b e), hmem b (hge b e), fun hB => by have := hblk b hB; have := hge b e; omega⟩) (fun b hbb => ?_) ?_
    · rcases hbb with hB | ⟨o, x, hx⟩
      · exact hold b (hblk b hB)
      · exact hold b (hsat.memLt hx)
    · have hl : (intR zs).length = zs.length := by simp [intR]
      refine ⟨zs.map (Value.int .i64), ?_, Nat.one_pos, fun r hr => ?_, fun i r hi q d hq => ?_⟩
      · rw [hl]
        refine ⟨hrow.1, ?_⟩
        rcases hrow.2 with h | ⟨g, cap, cur, h1, _, h2⟩
        · exact .inl h
        · exact .inr ⟨g, cap, cur, h1, Nat.zero_le _, h2⟩
      · obtain ⟨z, _, rfl⟩ := List.mem_map.1 hr
        rfl
      · simp only [intR, List.getElem?_map, Option.map_eq_some_iff] at hi
        obtain ⟨z, hz', rfl⟩ := hi
        match q, hq with
        | 0, hq =>
          cases hq
          have h3 : i < zs.length := (List.getElem?_eq_some_iff.1 hz').1
          have h4 : zs[i] = z := (List.getElem?_eq_some_iff.1 hz').2
          have : (zs.map (Value.int .i64)).getD (i * 1 + 0) undef = .int .i64 z := by simp [h3, h4]
          rw [this]
          exact ⟨rfl, .u _ _ (.int _ _)⟩
  refine ⟨_, .vec nx zs.length, _, nx + 1, k.add nx hh, rfl, ?_, hsat2, fun i hi => ?_, by omega, .vec nx _ hh (by simp [Kr.add]), rfl, rfl, rfl⟩
  · exact ⟨Kr.le_add hk0, fun i hi => hhdr i hi, fun b o x hx => .inl hx, hown, hb.os, hb.tape, hb.output, hb.size, fun b hnb => hold b (by
      rcases Nat.lt_or_ge b w.heap.size with h | h
      · exact h
      · exact absurd (hown b h) hnb)⟩
  · simp only [Kr.add]
    rw [if_neg (by omega)]
    exact hhdr i (by omega)
end Go.VL
