/- VmNames: for every input the law returns true, and each argument reads afterwards as it read before. No condition. -/
import Derived.Test.YtblmompdcammeaaWs
import Derived.Test.YtblmompdcammeaaVLM
set_option linter.all false
namespace Go.Proofs.Ytblmompdcammeaa
open Go Go.VL Go.ChangeShapes Go.WideShapes Go.ChangeAt Go.RowKit
theorem Try.own : ownKnob Try.prog.godebug = none := by kernel_rfl
theorem Try.laidOut : laidOutB Try.prog = true := by kernel_rfl
theorem Try.seqs : seqAll Try.prog = true := by kernel_rfl
theorem ins_of {r : List U} (h : HasRow Try.prog 32 r) : ∃ c : Ins, r = c.row ∧ True := by
  obtain ⟨rs, hr, h⟩ := h.of_struct sf32
  match rs, h with
  | [a, b, c], h =>
    obtain ⟨h1, h2, h3, _⟩ := h
    obtain ⟨x, rfl, _⟩ := h1.of_int io3
    obtain ⟨y, rfl, _⟩ := h2.of_int io3
    obtain ⟨z, rfl, _⟩ := h3.of_str (by simp)
    exact ⟨⟨x, y, z⟩, hr, trivial⟩
theorem var_of {r : List U} (h : HasRow Try.prog 25 r) : ∃ c : Var, r = c.row ∧ True := by
  obtain ⟨rs, hr, h⟩ := h.of_struct sf25
  match rs, h with
  | [a, b, c], h =>
    obtain ⟨h1, h2, h3, _⟩ := h
    obtain ⟨x, rfl, _⟩ := h1.of_str (by simp)
    obtain ⟨y, rfl, _⟩ := h2.of_int io3
    obtain ⟨z, rfl, _⟩ := h3.of_int io3
    exact ⟨⟨x, y, z⟩, hr, trivial⟩
theorem inss_of {u : U} (h : ArgU Try.prog 22 u) : ∃ l, u = inss l := by
  obtain ⟨rows, h1, _, h2⟩ := (h.one (by simp) (by simp)).of_slice es22
  obtain ⟨l, rfl, _⟩ := rows_list Ins.row (fun _ => True) fun r hr => ins_of (h2 r hr)
  exact ⟨l, by simp at h1; exact h1⟩
theorem vars_of {u : U} (h : ArgU Try.prog 23 u) : ∃ l, u = vars l := by
  obtain ⟨rows, h1, _, h2⟩ := (h.one (by simp) (by simp)).of_slice es23
  obtain ⟨l, rfl, _⟩ := rows_list Var.row (fun _ => True) fun r hr => var_of (h2 r hr)
  exact ⟨l, by simp at h1; exact h1⟩
theorem int_of {u : U} (h : ArgU Try.prog 3 u) : ∃ n, u = .int .i64 n := by
  obtain ⟨n, h1, _⟩ := (h.one (by simp) (by simp)).of_int io3
  exact ⟨n, by simpa using h1⟩
set_option maxRecDepth 100000 in
theorem names_lifted (os : Os) (started : os.Started) (H : Type) (enc : TypeId × Value → H) :
    ReturnsInHanded {} Try.checked os 3 .any (Rows.vmNamesSpec.pre6 enc Try.prog Try.f3 Rows.vmNamesRow.domain false) (Rows.vmNamesSpec.post enc Try.prog Try.f3 false true false false) := by
  refine law_lifted (tb := 4) Try.own started (by kernel_rfl) Try.func3
    (ChangeSpec.witness6 (enc := enc) (C := Try.checked) false ⟨#[], #[.slice none 0 0, .slice none 0 0, .agg #[.string ⟨#[]⟩, .int .i64 0, .int .i64 0], .int .i64 0, .int .i64 0], []⟩ 8 (by kernel_rfl) (by kernel_rfl) (by kernel_rfl) (by kernel_rfl))
    Try.laidOut Try.seqs (by kernel_rfl) rfl (fun ds h => ?_) (by kernel_rfl) (by kernel_rfl) (fun us h => ?_)
  · match ds, h with
    | [_, _, _, _, _], _ => rfl
  · match us, h with
    | [a, b, c, d, e], h =>
      obtain ⟨h1, h2, h3, h4, h5, _⟩ := h
      obtain ⟨l, rfl⟩ := inss_of h1
      obtain ⟨vs, rfl⟩ := vars_of h2
      obtain ⟨r, rfl, h3r⟩ := h3.agg sf25
      obtain ⟨one, rfl, _⟩ := var_of h3r
      obtain ⟨by_, rfl⟩ := int_of h4
      obtain ⟨fuel, rfl⟩ := int_of h5
      exact names_fun l vs one by_ fuel
theorem names_holds : Rows.VmNamesSaid :=
  OpenClaim.holds_of_wide 3 Try.f3 rfl rfl rfl rfl rfl rfl rfl ⟨rfl, rfl, rfl, rfl, rfl⟩ rfl rfl rfl rfl rfl (by kernel_rfl) Try.func3 (by kernel_rfl)
    (of_decide_eq_true (by kernel_rfl)) (by unfold Func.isWrapper; first | (rw [if_pos (by decide +kernel)]; kernel_rfl) | (rw [if_neg (by decide +kernel)]; exact ⟨rfl, rfl⟩))
    (fun os started H enc _ => names_lifted os started H enc)
end Go.Proofs.Ytblmompdcammeaa
