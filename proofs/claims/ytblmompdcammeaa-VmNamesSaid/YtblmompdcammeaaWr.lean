/- More given values, or given values in another order: what a run makes of them; the law on names. -/
import Derived.Test.YtblmompdcammeaaWq
set_option linter.all false
namespace Go.Proofs.Ytblmompdcammeaa
open Go Go.VL
theorem stepI_congr {vs ws : List Var} {m : Mach} {c : Ins} (h : c.op = 1 → vs.find? (fun v => decide (v.name = c.s)) = ws.find? fun v => decide (v.name = c.s)) : stepI vs m c = stepI ws m c := by
  unfold stepI
  by_cases h0 : c.op = 0
  · rw [if_pos h0, if_pos h0]
  · rw [if_neg h0, if_neg h0]
    by_cases h1 : c.op = 1
    · rw [if_pos h1, if_pos h1, h h1]
    · rw [if_neg h1, if_neg h1]
theorem stepM_congr {code : List Ins} {vs ws : List Var} {m : Mach} (h : ∀ c ∈ code, c.op = 1 → vs.find? (fun v => decide (v.name = c.s)) = ws.find? fun v => decide (v.name = c.s)) : stepM code vs m = stepM code ws m := by
  unfold stepM
  split
  · rfl
  cases hc : code[m.pc.toNat]? with
  | none => rfl
  | some c =>
    simp only
    split
    · rfl
    · exact stepI_congr (h c (List.mem_of_getElem? hc))
theorem runK_congr {code : List Ins} {vs ws : List Var} {fuel : Int} (h : ∀ c ∈ code, c.op = 1 → vs.find? (fun v => decide (v.name = c.s)) = ws.find? fun v => decide (v.name = c.s)) : ∀ (k : Nat) (n : Int) (m : Mach), runK code vs fuel k n m = runK code ws fuel k n m
  | 0, _, _ => rfl
  | k + 1, n, m => by
    simp only [runK, stepM_congr h]
    split
    · rfl
    · exact runK_congr h k _ _
theorem runM_congr {code : List Ins} {vs ws : List Var} {fuel : Int} (h : ∀ c ∈ code, c.op = 1 → vs.find? (fun v => decide (v.name = c.s)) = ws.find? fun v => decide (v.name = c.s)) : runM code vs fuel = runM code ws fuel := by
  unfold runM
  split
  · rfl
  · exact runK_congr h _ _ _
/-- No instruction has this name. -/
def idleA (nm : List UInt8) (l : List Ins) : Bool := l.all fun c => !decide (c.op = 1) || !decide (c.s = nm)
def idleB (nm : List UInt8) (vs : List Var) : Bool := vs.any fun v => decide (v.name = nm)
def uniqAt (nm : List UInt8) (vs : List Var) : Bool := vs.all fun v => !decide (v.name = nm)
def uniqB : List Var → Bool
  | [] => true
  | v :: l => uniqB l && uniqAt v.name l
theorem idleA_snoc (nm : List UInt8) (l : List Ins) (c : Ins) : idleA nm (l ++ [c]) = (idleA nm l && (!decide (c.op = 1) || !decide (c.s = nm))) := by simp [idleA]
theorem idleB_snoc (nm : List UInt8) (l : List Var) (c : Var) : idleB nm (l ++ [c]) = (idleB nm l || decide (c.name = nm)) := by simp [idleB]
theorem uniqAt_snoc (nm : List UInt8) (l : List Var) (c : Var) : uniqAt nm (l ++ [c]) = (uniqAt nm l && !decide (c.name = nm)) := by simp [uniqAt]
theorem uniqAt_iff (nm : List UInt8) (l : List Var) : uniqAt nm l = true ↔ ∀ v ∈ l, v.name ≠ nm := by simp [uniqAt]
theorem uniqB_iff : ∀ l : List Var, uniqB l = true ↔ l.Pairwise fun a b => a.name ≠ b.name
  | [] => by simp [uniqB]
  | v :: l => by
    rw [uniqB, Bool.and_eq_true, uniqB_iff l, uniqAt_iff, List.pairwise_cons]
    exact ⟨fun ⟨h1, h2⟩ => ⟨fun a ha e => h2 a ha e.symm, h1⟩, fun ⟨h1, h2⟩ => ⟨h2, fun a ha e => h1 a ha e.symm⟩⟩
theorem uniqB_snoc (l : List Var) (c : Var) : uniqB (l ++ [c]) = (uniqB l && uniqAt c.name l) := by
  rw [Bool.eq_iff_iff, uniqB_iff, List.pairwise_append, Bool.and_eq_true, uniqB_iff, uniqAt_iff]
  simp
theorem run_more {code : List Ins} {vs : List Var} {one : Var} {fuel : Int} (h : (idleA one.name code || idleB one.name vs) = true) : runM code (vs ++ [one]) fuel = runM code vs fuel := by
  refine runM_congr fun c hc h1 => ?_
  rw [List.find?_append]
  rcases (by simpa using h : idleA one.name code = true ∨ idleB one.name vs = true) with h | h
  · have := List.all_eq_true.1 h c hc
    simp [h1] at this
    have e : ([one].find? fun v => decide (v.name = c.s)) = none := by
      rw [List.find?_eq_none]
      simp
      exact fun e => this e.symm
    rw [e, Option.or_none]
  · cases hf : vs.find? (fun v => decide (v.name = c.s)) with
    | some v => rfl
    | none =>
      rw [List.find?_eq_none] at hf
      obtain ⟨v, hv, hn⟩ := List.any_eq_true.1 h
      have e : ([one].find? fun v => decide (v.name = c.s)) = none := by
        rw [List.find?_eq_none]
        simp
        intro e
        have := hf v hv
        simp at this hn
        exact this (hn.trans e)
      rw [e, Option.or_none]
theorem find_perm : ∀ {vs ws : List Var} (_ : vs.Pairwise fun a b => a.name ≠ b.name) (_ : ws.Perm vs) (s : List UInt8), ws.find? (fun v => decide (v.name = s)) = vs.find? fun v => decide (v.name = s) := by
  intro vs ws hu hp s
  cases h1 : ws.find? (fun v => decide (v.name = s)) with
  | none =>
    rw [List.find?_eq_none] at h1
    exact (List.find?_eq_none.2 fun x hx => h1 x (hp.mem_iff.2 hx)).symm
  | some w =>
    have hw := List.mem_of_find?_eq_some h1
    have hn := List.find?_some h1
    cases h2 : vs.find? (fun v => decide (v.name = s)) with
    | none =>
      rw [List.find?_eq_none] at h2
      exact absurd hn (h2 w (hp.mem_iff.1 hw))
    | some v =>
      have hv := List.mem_of_find?_eq_some h2
      have hn2 := List.find?_some h2
      simp at hn hn2
      have hw' := hp.mem_iff.1 hw
      obtain ⟨i, hi⟩ := List.getElem?_of_mem hw'
      obtain ⟨j, hj⟩ := List.getElem?_of_mem hv
      obtain ⟨hi1, rfl⟩ := List.getElem?_eq_some_iff.1 hi
      obtain ⟨hj1, rfl⟩ := List.getElem?_eq_some_iff.1 hj
      rw [List.pairwise_iff_getElem] at hu
      rcases Nat.lt_trichotomy i j with h | h | h
      · exact absurd (hn.trans hn2.symm) (hu i j hi1 hj1 h)
      · subst h; rfl
      · exact absurd (hn2.trans hn.symm) (hu j i hj1 hi1 h)
theorem run_turn {code : List Ins} {vs : List Var} {fuel : Int} (k : Nat) (h : uniqB vs = true) : runM code (vs.drop k ++ vs.take k) fuel = runM code vs fuel := by
  refine runM_congr fun c hc h1 => find_perm ((uniqB_iff vs).1 h) ?_ c.s
  exact List.perm_append_comm.trans (by rw [List.take_append_drop])
end Go.Proofs.Ytblmompdcammeaa
