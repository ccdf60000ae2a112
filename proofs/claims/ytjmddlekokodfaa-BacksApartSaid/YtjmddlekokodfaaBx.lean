/- BacksApart: for every input the law returns true, and each argument reads afterwards as it read before. No condition. -/
import Derived.Test.YtjmddlekokodfaaBw
import Derived.Test.YtjmddlekokodfaaBk
set_option linter.all false
set_option maxRecDepth 100000
set_option maxHeartbeats 8000000
set_option linter.all false
namespace Go.Proofs.Ytjmddlekokodfaa
open Go Go.VL Go.ChangeShapes Go.WideShapes Go.ChangeAt Go.RowKit
theorem apart_lifted (os : Os) (started : os.Started) (H : Type) (enc : TypeId × Value → H) :
    ReturnsInHanded {} Try.checked os 6 .any (Rows.backsApartSpec.pre6 enc Try.prog Try.f6 Rows.backsApartRow.domain false) (Rows.backsApartSpec.post enc Try.prog Try.f6 false true false false) := by
  refine law_lifted (tb := 4) Try.own started (by kernel_rfl) Try.func6
    (ChangeSpec.witness6 (enc := enc) (C := Try.checked) false ⟨#[], #[.slice none 0 0, .slice none 0 0, .slice none 0 0, .int .u8 0, .int .u8 0], []⟩ 8 (by kernel_rfl) (by kernel_rfl) (by kernel_rfl) (by kernel_rfl))
    Try.laidOut Try.seqs (by kernel_rfl) rfl (fun ds h => ?_) (by kernel_rfl) (by kernel_rfl) (fun us h => ?_)
  · match ds, h with
    | [_, _, _, _, _], _ => rfl
  · match us, h with
    | [a0, a1, a2, a3, a4], h =>
      obtain ⟨h0, h1, h2, h3, h4, _⟩ := h
      obtain ⟨x0, rfl⟩ := ints_of h0
      obtain ⟨x1, rfl⟩ := lists_of h1
      obtain ⟨x2, rfl⟩ := ints_of h2
      obtain ⟨x3, rfl, x30, x31⟩ := u8_of h3
      obtain ⟨x4, rfl, x40, x41⟩ := u8_of h4
      exact apart_fun x0 x1 x2 x3 x4 x30 x31 x40 x41
theorem apart_holds : Rows.BacksApartSaid :=
  OpenClaim.holds_of_wide 6 Try.f6 rfl rfl rfl rfl rfl rfl rfl ⟨rfl, rfl, rfl, rfl, rfl⟩ rfl rfl rfl rfl rfl (by kernel_rfl) Try.func6 (by kernel_rfl)
    (of_decide_eq_true (by kernel_rfl)) (by unfold Func.isWrapper; first | (rw [if_pos (by decide +kernel)]; kernel_rfl) | (rw [if_neg (by decide +kernel)]; exact ⟨rfl, rfl⟩))
    (fun os started H enc _ => apart_lifted os started H enc)
end Go.Proofs.Ytjmddlekokodfaa
