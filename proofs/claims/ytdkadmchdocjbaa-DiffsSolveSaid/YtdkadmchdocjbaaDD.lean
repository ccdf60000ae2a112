/- DiffsSolve: for every input the law returns true, and each argument reads afterwards as it read before. No condition. -/
import Derived.Test.YtdkadmchdocjbaaDx
import Derived.Test.YtdkadmchdocjbaaDz
import Derived.Test.YtdkadmchdocjbaaDB
set_option linter.all false
set_option maxRecDepth 100000
set_option maxHeartbeats 8000000
set_option linter.all false
namespace Go.Proofs.Ytdkadmchdocjbaa
open Go Go.VL Go.ChangeShapes Go.WideShapes Go.ChangeAt Go.RowKit
theorem solves_lifted (os : Os) (started : os.Started) (H : Type) (enc : TypeId × Value → H) :
    ReturnsInHanded {} Try.checked os 4 .any (Rows.diffsSolveSpec.pre6 enc Try.prog Try.f4 Rows.diffsSolveRow.domain false) (Rows.diffsSolveSpec.post enc Try.prog Try.f4 false true false false) := by
  refine law_lifted (hglob := rfl) (tb := 4) Try.own started (by kernel_rfl) Try.func4
    (ChangeSpec.witness6 (enc := enc) (C := Try.checked) false ⟨#[], #[.slice none 0 0, .int .i64 0, .slice none 0 0], []⟩ 8 (by kernel_rfl) (by kernel_rfl) (by kernel_rfl) (by kernel_rfl))
    Try.laidOut Try.seqs (by kernel_rfl) rfl (fun ds h => ?_) (by kernel_rfl) (by kernel_rfl) (fun us h => ?_)
  · match ds, h with
    | [_, _, _], _ => rfl
  · match us, h with
    | [a0, a1, a2], h =>
      obtain ⟨h0, h1, h2, _⟩ := h
      obtain ⟨x0, rfl⟩ := cons_of h0
      obtain ⟨x1, rfl⟩ := int_of h1
      obtain ⟨x2, rfl⟩ := ints_of h2
      exact solves_fun small_fun x0 x1 x2
theorem solves_holds : Rows.DiffsSolveSaid :=
  OpenClaim.holds_of_wide 4 Try.f4 rfl rfl rfl rfl rfl rfl rfl ⟨rfl, rfl, rfl, rfl, rfl⟩ rfl rfl rfl rfl rfl (by kernel_rfl) Try.func4 (by kernel_rfl)
    (of_decide_eq_true (by kernel_rfl)) (by unfold Func.isWrapper; first | (rw [if_pos (by decide +kernel)]; kernel_rfl) | (rw [if_neg (by decide +kernel)]; exact ⟨rfl, rfl⟩))
    (fun os started H enc _ => solves_lifted os started H enc)
end Go.Proofs.Ytdkadmchdocjbaa
