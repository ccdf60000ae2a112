/- VmEval: for every input the law returns true, and each argument reads afterwards as it read before. No condition. -/
import Derived.Test.YtmoohdpnmkkgpaaK6
set_option linter.all false
set_option maxRecDepth 100000
set_option maxHeartbeats 8000000
set_option linter.all false
namespace Go.Proofs.Ytmoohdpnmkkgpaa
open Go Go.VL Go.ChangeShapes Go.WideShapes Go.ChangeAt Go.RowKit
theorem evals_lifted (os : Os) (started : os.Started) (H : Type) (enc : TypeId × Value → H) :
    ReturnsInHanded {} Try.checked os 3 .any (Rows.vmEvalSpec.pre6 enc Try.prog Try.f3 Rows.vmEvalRow.domain false) (Rows.vmEvalSpec.post enc Try.prog Try.f3 false true false false) := by
  refine law_lifted (hglob := rfl) (tb := 4) Try.own started (by kernel_rfl) Try.func3
    (ChangeSpec.witness6 (enc := enc) (C := Try.checked) false ⟨#[], #[.slice none 0 0, .slice none 0 0, .agg #[.int .i64 0, .int .i64 0, .int .i64 0, .string ⟨#[]⟩, .slice none 0 0]], []⟩ 8 (by kernel_rfl) (by kernel_rfl) (by kernel_rfl) (by kernel_rfl))
    Try.laidOut Try.seqs (by kernel_rfl) rfl (fun ds h => ?_) (by kernel_rfl) (by kernel_rfl) (fun us h => ?_)
  · match ds, h with
    | [_, _, _], _ => rfl
  · match us, h with
    | [a0, a1, a2], h =>
      obtain ⟨h0, h1, h2, _⟩ := h
      obtain ⟨x0, rfl⟩ := lets_of h0
      obtain ⟨x1, rfl⟩ := vars_of h1
      obtain ⟨r, rfl, h2r⟩ := h2.agg sf26
      obtain ⟨x2, rfl⟩ := expU_of h2r
      exact evals_fun x0 x1 x2
theorem evals_holds : Rows.VmEvalSaid :=
  OpenClaim.holds_of_wide 3 Try.f3 rfl rfl rfl rfl rfl rfl rfl ⟨rfl, rfl, rfl, rfl, rfl⟩ rfl rfl rfl rfl rfl (by kernel_rfl) Try.func3 (by kernel_rfl)
    (of_decide_eq_true (by kernel_rfl)) (by unfold Func.isWrapper; first | (rw [if_pos (by decide +kernel)]; kernel_rfl) | (rw [if_neg (by decide +kernel)]; exact ⟨rfl, rfl⟩))
    (fun os started H enc _ => evals_lifted os started H enc)
end Go.Proofs.Ytmoohdpnmkkgpaa
