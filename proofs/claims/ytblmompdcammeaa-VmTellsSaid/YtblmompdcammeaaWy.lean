/- What the arguments read as. -/
import Derived.Test.YtblmompdcammeaaWq
import Derived.Test.YtblmompdcammeaaVLM
set_option linter.all false
namespace Go.Proofs.Ytblmompdcammeaa
open Go Go.VL Go.ChangeShapes Go.WideShapes Go.ChangeAt Go.RowKit
theorem Try.own : ownKnob Try.prog.godebug = none := by kernel_rfl
theorem Try.laidOut : laidOutB Try.prog = true := by kernel_rfl
theorem Try.seqs : seqAll Try.prog = true := by kernel_rfl
theorem ins_of {r : List U} (h : HasRow Try.prog 32 r) : ∃ c : Ins, r = c.row ∧ True := by
  obtain ⟨rs, hr, h⟩ := h.of_struct sf32
  match rs, h with
  | [a, b, c], h =>
    obtain ⟨h1, h2, h3, _⟩ := h
    obtain ⟨x, rfl, _⟩ := h1.of_int io3
    obtain ⟨y, rfl, _⟩ := h2.of_int io3
    obtain ⟨z, rfl, _⟩ := h3.of_str (by simp)
    exact ⟨⟨x, y, z⟩, hr, trivial⟩
theorem var_of {r : List U} (h : HasRow Try.prog 25 r) : ∃ c : Var, r = c.row ∧ True := by
  obtain ⟨rs, hr, h⟩ := h.of_struct sf25
  match rs, h with
  | [a, b, c], h =>
    obtain ⟨h1, h2, h3, _⟩ := h
    obtain ⟨x, rfl, _⟩ := h1.of_str (by simp)
    obtain ⟨y, rfl, _⟩ := h2.of_int io3
    obtain ⟨z, rfl, _⟩ := h3.of_int io3
    exact ⟨⟨x, y, z⟩, hr, trivial⟩
theorem inss_of {u : U} (h : ArgU Try.prog 22 u) : ∃ l, u = inss l := by
  obtain ⟨rows, h1, _, h2⟩ := (h.one (by simp) (by simp)).of_slice es22
  obtain ⟨l, rfl, _⟩ := rows_list Ins.row (fun _ => True) fun r hr => ins_of (h2 r hr)
  exact ⟨l, by simp at h1; exact h1⟩
theorem vars_of {u : U} (h : ArgU Try.prog 23 u) : ∃ l, u = vars l := by
  obtain ⟨rows, h1, _, h2⟩ := (h.one (by simp) (by simp)).of_slice es23
  obtain ⟨l, rfl, _⟩ := rows_list Var.row (fun _ => True) fun r hr => var_of (h2 r hr)
  exact ⟨l, by simp at h1; exact h1⟩
theorem int_of {u : U} (h : ArgU Try.prog 3 u) : ∃ n, u = .int .i64 n := by
  obtain ⟨n, h1, _⟩ := (h.one (by simp) (by simp)).of_int io3
  exact ⟨n, by simpa using h1⟩
theorem byte_of {u : U} (h : ArgU Try.prog 5 u) : ∃ n, u = .int .u8 n ∧ 0 ≤ n ∧ n ≤ 255 := by
  obtain ⟨n, h1, h2, h3⟩ := (h.one (by simp) (by simp)).of_int io5
  exact ⟨n, by simpa using h1, h2, h3⟩
end Go.Proofs.Ytblmompdcammeaa
