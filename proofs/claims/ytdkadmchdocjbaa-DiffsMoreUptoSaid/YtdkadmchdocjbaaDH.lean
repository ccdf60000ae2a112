/- DiffsMore, where the arguments hold together at most 1048576 values and letters: for every such input the law returns true, and each argument reads afterwards as it read before. -/
import Derived.Test.YtdkadmchdocjbaaDG
import Derived.Test.YtdkadmchdocjbaaDz
import Derived.Test.YtdkadmchdocjbaaDB
import Derived.Test.YtdkadmchdocjbaaVLE
set_option linter.all false
set_option maxRecDepth 100000
set_option maxHeartbeats 8000000
set_option linter.all false
namespace Go.Proofs.Ytdkadmchdocjbaa
open Go Go.VL Go.ChangeShapes Go.WideShapes Go.ChangeAt Go.RowKit
set_option maxRecDepth 100000 in
theorem mores_lifted (os : Os) (started : os.Started) (H : Type) (enc : TypeId × Value → H) (F : Stop.Interp) :
    ReturnsInHanded {} Try.checked os 6 .any ((Rows.OpenSpec.upto Rows.diffsMoreSpec).pre6 enc Try.prog Try.f6 Rows.diffsMoreUptoRow.domain false) (((Rows.OpenSpec.upto Rows.diffsMoreSpec).at F).post enc Try.prog Try.f6 false true false false) := by
  refine law_lifted_upto (hglob := rfl) (tb := 4) (s := Rows.diffsMoreSpec) Try.own started (by kernel_rfl) Try.func6
    (OpenSpec.witness (enc := enc) (C := Try.checked) (s := Rows.OpenSpec.upto Rows.diffsMoreSpec) (k := Rows.uptoSmall) rfl false ⟨#[], #[.slice none 0 0, .slice none 0 0, .int .i64 0, .int .i64 0], []⟩ 8 (by kernel_rfl) (by kernel_rfl) (by kernel_rfl)
      (x := ([.nil, .nil, .lit (.int .i64 0), .lit (.int .i64 0)], [], [])) (by kernel_rfl) rfl (by kernel_rfl))
    Try.laidOut Try.seqs (by kernel_rfl) rfl (fun ds h => ?_) (by kernel_rfl) (by kernel_rfl) (fun us h hz => ?_)
  · match ds, h with
    | [_, _, _, _], _ => rfl
  · match us, h, hz with
    | [a0, a1, a2, a3], h, hz =>
      obtain ⟨h0, h1, h2, h3, _⟩ := h
      obtain ⟨x0, rfl⟩ := cons_of h0
      obtain ⟨x1, rfl⟩ := cons_of h1
      obtain ⟨x2, rfl⟩ := int_of h2
      obtain ⟨x3, rfl⟩ := int_of h3
      have hz2 : szU (consU x0) + szU (consU x1) ≤ 1048576 := by
        simp only [List.map_cons, List.map_nil, List.sum_cons, List.sum_nil] at hz
        omega
      have hl : x0.length ≤ szU (consU x0) := by
        have := sz_sl (rows := x0.map fun c => [U.int .i64 c.A, U.int .i64 c.B, U.int .i64 c.N])
        rwa [List.length_map] at this
      have hm : x1.length ≤ szU (consU x1) := by
        have := sz_sl (rows := x1.map fun c => [U.int .i64 c.A, U.int .i64 c.B, U.int .i64 c.N])
        rwa [List.length_map] at this
      exact mores_fun small_fun x0 x1 x2 x3 (by omega) (by omega)
theorem mores_holds : Rows.DiffsMoreUptoSaid :=
  OpenClaim.holds_of_cond 6 Try.f6 rfl rfl rfl rfl rfl rfl rfl ⟨rfl, rfl, rfl, rfl, rfl⟩ rfl rfl rfl rfl rfl (by kernel_rfl) Try.func6 (by kernel_rfl)
    (of_decide_eq_true (by kernel_rfl)) (by unfold Func.isWrapper; first | (rw [if_pos (by decide +kernel)]; kernel_rfl) | (rw [if_neg (by decide +kernel)]; exact ⟨rfl, rfl⟩))
    (fun os started H enc _ F => mores_lifted os started H enc F)
end Go.Proofs.Ytdkadmchdocjbaa
