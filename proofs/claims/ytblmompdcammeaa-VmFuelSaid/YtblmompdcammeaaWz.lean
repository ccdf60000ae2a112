/- VmFuel: for every input the law returns true, and each argument reads afterwards as it read before. No condition. -/
import Derived.Test.YtblmompdcammeaaWw
import Derived.Test.YtblmompdcammeaaWy
set_option linter.all false
namespace Go.Proofs.Ytblmompdcammeaa
open Go Go.VL Go.ChangeShapes Go.WideShapes Go.ChangeAt Go.RowKit
set_option maxRecDepth 100000 in
theorem fuel_lifted (os : Os) (started : os.Started) (H : Type) (enc : TypeId × Value → H) :
    ReturnsInHanded {} Try.checked os 5 .any (Rows.vmFuelSpec.pre6 enc Try.prog Try.f5 Rows.vmFuelRow.domain false) (Rows.vmFuelSpec.post enc Try.prog Try.f5 false true false false) := by
  refine law_lifted (tb := 4) Try.own started (by kernel_rfl) Try.func5
    (ChangeSpec.witness6 (enc := enc) (C := Try.checked) false ⟨#[], #[.slice none 0 0, .slice none 0 0, .int .i64 0, .int .u8 0], []⟩ 8 (by kernel_rfl) (by kernel_rfl) (by kernel_rfl) (by kernel_rfl))
    Try.laidOut Try.seqs (by kernel_rfl) rfl (fun ds h => ?_) (by kernel_rfl) (by kernel_rfl) (fun us h => ?_)
  · match ds, h with
    | [_, _, _, _], _ => rfl
  · match us, h with
    | [a, b, c, d], h =>
      obtain ⟨h1, h2, h3, h4, _⟩ := h
      obtain ⟨l, rfl⟩ := inss_of h1
      obtain ⟨vs, rfl⟩ := vars_of h2
      obtain ⟨fuel, rfl⟩ := int_of h3
      obtain ⟨more, rfl, h5⟩ := byte_of h4
      exact fuel_fun l vs fuel more h5
theorem fuel_holds : Rows.VmFuelSaid :=
  OpenClaim.holds_of_wide 5 Try.f5 rfl rfl rfl rfl rfl rfl rfl ⟨rfl, rfl, rfl, rfl, rfl⟩ rfl rfl rfl rfl rfl (by kernel_rfl) Try.func5 (by kernel_rfl)
    (of_decide_eq_true (by kernel_rfl)) (by unfold Func.isWrapper; first | (rw [if_pos (by decide +kernel)]; kernel_rfl) | (rw [if_neg (by decide +kernel)]; exact ⟨rfl, rfl⟩))
    (fun os started H enc _ => fuel_lifted os started H enc)
end Go.Proofs.Ytblmompdcammeaa
