/- slices.Collect(slices.Values(zs)) told in the calculus: a new slice of the call's own. -/
import Derived.Test.YtjmddlekokodfaaSv
import Derived.Test.YtjmddlekokodfaaVLT
set_option linter.all false
set_option maxRecDepth 100000
set_option maxHeartbeats 8000000
set_option linter.all false
namespace Go.Proofs.Ytjmddlekokodfaa
open Go Go.VL Go.Proofs
theorem ints_at {m : Mem} {w : World} (hm : ∀ b o v, m b o = some v → VL.look w b o = some v) {zs : List Int} {sv : Value} (h : RepU m (.sl (zs.map fun z => [U.int .i64 z])) sv) : IntsAt w.heap.size w sv zs := by
  generalize he : (zs.map fun z => [U.int .i64 z]) = rows at h
  cases h with
  | slE a c _ => exact .inl ⟨a, c, rfl, by simpa using he⟩
  | sl _ b o sz c f hc hx hsz hmm hr =>
    subst he
    have hlen : (zs.map fun z => [U.int .i64 z]).length = zs.length := by simp
    by_cases hz : zs = []
    · subst hz; exact .inl ⟨_, _, rfl, rfl⟩
    obtain ⟨z0, hz0⟩ := List.exists_mem_of_ne_nil zs hz
    obtain rfl : 1 = sz := hsz [.int .i64 z0] (List.mem_map.2 ⟨z0, hz0, rfl⟩)
    have hcell : ∀ j, j < zs.length → VL.look w b (o + j) = some (.val (.int .i64 (zs[j]?.getD 0))) := fun j hj => by
      have h1 := hm _ _ _ (hmm j (by omega) 0 (by omega))
      have h2 := hr j [.int .i64 zs[j]] (by simp [hj]) 0 _ rfl
      have h3 : f j 0 = .int .i64 zs[j] := by
        generalize f j 0 = q at h2
        cases h2
        rfl
      rw [h3] at h1
      simpa [hj] using h1
    refine .inr ⟨b, o, c, by rw [hlen], ?_, fun j hj => look_val (hcell j hj)⟩
    have hp : 0 < zs.length := List.length_pos_iff.2 hz
    exact look_lt (hcell 0 hp)
theorem collect_ret (j nx : Nat) (hj : j < nx) (zs : List Int) (hz : zs.length ≤ 1099511627776) : Ret Try.prog 45 [.fnc (.func 46) [.ptr j 0]] [(j, .box [.u (.sl (zs.map fun z => [U.int .i64 z]))])] nx
    fun d obs nx' => d = .vec nx zs.length ∧ obs = [(nx, .vec 3 1 (intR zs)), (j, .box [.u (.sl (zs.map fun z => [U.int .i64 z]))])] ∧ nx' = nx + 1 := by
  intro k own w vs hsat hhdr hown hrep
  obtain ⟨h1, h2⟩ := hrep
  have h3 := h2 0 _ rfl
  obtain ⟨cs, hcl, hf, hcr⟩ := rep_fnc h3
  have h4 := hcr 0 _ rfl
  obtain ⟨Bs, cB, hhB, hp⟩ := rep_ptr h4
  obtain ⟨Bs', cB', cells, tB, hhB', hownB, hheapB, hszB, hcB, hnoB⟩ := (hsat.ob j (.box [.u (.sl (zs.map fun z => [U.int .i64 z]))]) (by simp [getK])).box
  rw [hhB] at hhB'
  cases hhB'
  obtain ⟨bo, hbo⟩ : ∃ bo : Nat, bo = 0 := ⟨0, rfl⟩
  obtain ⟨sv, hsv⟩ : ∃ sv, sv = cells.getD 0 undef := ⟨_, rfl⟩
  have hrs : RepU k.mem (.sl (zs.map fun z => [U.int .i64 z])) sv := by
    have := (hcB 0 _ rfl).2
    rw [← hsv] at this
    cases this with | u _ _ h => exact h
  have hcell : w.cell? ⟨Bs, bo, none⟩ = some sv := by
    subst hbo
    rw [cell_of_row w Bs 0 cells tB (0, 0) hheapB]
    have hpos : 0 < cells.size := by rw [hszB]; simp
    simp [hsv, hpos]
  have hcs : cs = [.pointer (some ⟨Bs, bo, none⟩)] := by
    subst hbo
    match cs, hcl with
    | [c], _ => simpa using hp
  have hsz1 : vs.size = 1 := by simpa using h1
  have hvs : vs = #[.func (.func 46) #[] #[.pointer (some ⟨Bs, bo, none⟩)]] := by
    apply Array.ext_getElem?
    intro i
    match i with
    | 0 =>
      rw [hcs] at hf
      simp [hsz1] at hf
      simp [hsz1, hf]
    | i + 1 => rw [Array.getElem?_eq_none (by omega), Array.getElem?_eq_none (by simp)]
  subst hvs
  have hBlt : Bs < w.heap.size := (Array.getElem?_eq_some_iff.1 hheapB).1
  have hc := (callsIn_wide (n := 4)).1 (collect_in Fence.wide 4 trivial trivial trivial rfl (by omega) Bs bo sv zs (by omega) w hBlt hcell (ints_at hsat.mem hrs))
  refine hc.mono ?_
  rintro e w' ⟨v, rfl, hrow, hnil, hb⟩
  obtain ⟨hh, hhv, hge⟩ : ∃ h : Option Nat × Nat, v = headVal h zs.length ∧ ∀ b, h.1 = some b → w.heap.size ≤ b := by
    rcases hrow.2 with ⟨rfl, hn⟩ | ⟨g, cap, cur, rfl, hg, _⟩
    · exact ⟨(none, 0), by simp [headVal, hn], fun b e => by cases e⟩
    · exact ⟨(some g, cap), rfl, fun b e => by cases e; exact hg⟩
  subst hhv
  have hk0 : k.hdr nx = none := hhdr nx (Nat.le_refl _)
  have hmem : ∀ b, w.heap.size ≤ b → ∀ o, k.mem b o = none := fun b hb o => by
    cases hm : k.mem b o with
    | none => rfl
    | some x => have := hsat.memLt hm; omega
  have hold : ∀ b, b < w.heap.size → w'.heap[b]? = w.heap[b]? := hb.block
  have hblk : ∀ b, Blk k [(j, .box [.u (.sl (zs.map fun z => [U.int .i64 z]))])] b → b < w.heap.size := fun b hb => hsat.lt hb
  have hsat2 : Sat (k.add nx hh) own ((nx, .vec 3 1 (intR zs)) :: [(j, .box [.u (.sl (zs.map fun z => [U.int .i64 z]))])]) w' := by
    refine Sat.add hsat hk0 (fun b e => ⟨hown b (hge b e), hmem b (hge b e), fun hB => by have := hblk b hB; have := hge b e; omega⟩) (fun b hbb => ?_) ?_
    · rcases hbb with hB | ⟨o, x, hx⟩
      · exact hold b (hblk b hB)
      · exact hold b (hsat.memLt hx)
    · have hl : (intR zs).length = zs.length := by simp [intR]
      refine ⟨zs.map (Value.int .i64), ?_, Nat.one_pos, fun r hr => ?_, fun i r hi q d hq => ?_⟩
      · rw [hl]
        refine ⟨hrow.1, ?_⟩
        rcases hrow.2 with h | ⟨g, cap, cur, h1, _, h2⟩
        · exact .inl h
        · exact .inr ⟨g, cap, cur, h1, Nat.zero_le _, h2⟩
      · obtain ⟨z, _, rfl⟩ := List.mem_map.1 hr
        rfl
      · simp only [intR, List.getElem?_map, Option.map_eq_some_iff] at hi
        obtain ⟨z, hz', rfl⟩ := hi
        match q, hq with
        | 0, hq =>
          cases hq
          have h3 : i < zs.length := (List.getElem?_eq_some_iff.1 hz').1
          have h4 : zs[i] = z := (List.getElem?_eq_some_iff.1 hz').2
          have : (zs.map (Value.int .i64)).getD (i * 1 + 0) undef = .int .i64 z := by simp [h3, h4]
          rw [this]
          exact ⟨rfl, .u _ _ (.int _ _)⟩
  refine ⟨_, .vec nx zs.length, _, nx + 1, k.add nx hh, rfl, ?_, hsat2, fun i hi => ?_, by omega, .vec nx _ hh (by simp [Kr.add]), rfl, rfl, rfl⟩
  · exact ⟨Kr.le_add hk0, fun i hi => hhdr i hi, fun b o x hx => .inl hx, hown, hb.os, hb.tape, hb.output, hb.size, fun b hnb => hold b (by
      rcases Nat.lt_or_ge b w.heap.size with h | h
      · exact h
      · exact absurd (hown b h) hnb)⟩
  · simp only [Kr.add]
    rw [if_neg (by omega)]
    exact hhdr i (by omega)
end Go.Proofs.Ytjmddlekokodfaa
