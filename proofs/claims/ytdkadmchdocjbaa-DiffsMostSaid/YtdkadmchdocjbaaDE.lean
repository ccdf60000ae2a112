/- DiffsMost: for every input the law returns true, and each argument reads afterwards as it read before. No condition. -/
import Derived.Test.YtdkadmchdocjbaaDy
import Derived.Test.YtdkadmchdocjbaaDz
import Derived.Test.YtdkadmchdocjbaaDB
set_option linter.all false
set_option maxRecDepth 100000
set_option maxHeartbeats 8000000
set_option linter.all false
namespace Go.Proofs.Ytdkadmchdocjbaa
open Go Go.VL Go.ChangeShapes Go.WideShapes Go.ChangeAt Go.RowKit
theorem mosts_lifted (os : Os) (started : os.Started) (H : Type) (enc : TypeId × Value → H) :
    ReturnsInHanded {} Try.checked os 5 .any (Rows.diffsMostSpec.pre6 enc Try.prog Try.f5 Rows.diffsMostRow.domain false) (Rows.diffsMostSpec.post enc Try.prog Try.f5 false true false false) := by
  refine law_lifted (hglob := rfl) (tb := 4) Try.own started (by kernel_rfl) Try.func5
    (ChangeSpec.witness6 (enc := enc) (C := Try.checked) false ⟨#[], #[.slice none 0 0, .int .i64 0, .int .i64 0, .int .i64 0, .slice none 0 0, .int .i64 0], []⟩ 8 (by kernel_rfl) (by kernel_rfl) (by kernel_rfl) (by kernel_rfl))
    Try.laidOut Try.seqs (by kernel_rfl) rfl (fun ds h => ?_) (by kernel_rfl) (by kernel_rfl) (fun us h => ?_)
  · match ds, h with
    | [_, _, _, _, _, _], _ => rfl
  · match us, h with
    | [a0, a1, a2, a3, a4, a5], h =>
      obtain ⟨h0, h1, h2, h3, h4, h5, _⟩ := h
      obtain ⟨x0, rfl⟩ := cons_of h0
      obtain ⟨x1, rfl⟩ := int_of h1
      obtain ⟨x2, rfl⟩ := int_of h2
      obtain ⟨x3, rfl⟩ := int_of h3
      obtain ⟨x4, rfl⟩ := ints_of h4
      obtain ⟨x5, rfl⟩ := int_of h5
      exact mosts_fun small_fun x0 x1 x2 x3 x4 x5
theorem mosts_holds : Rows.DiffsMostSaid :=
  OpenClaim.holds_of_wide 5 Try.f5 rfl rfl rfl rfl rfl rfl rfl ⟨rfl, rfl, rfl, rfl, rfl⟩ rfl rfl rfl rfl rfl (by kernel_rfl) Try.func5 (by kernel_rfl)
    (of_decide_eq_true (by kernel_rfl)) (by unfold Func.isWrapper; first | (rw [if_pos (by decide +kernel)]; kernel_rfl) | (rw [if_neg (by decide +kernel)]; exact ⟨rfl, rfl⟩))
    (fun os started H enc _ => mosts_lifted os started H enc)
end Go.Proofs.Ytdkadmchdocjbaa
