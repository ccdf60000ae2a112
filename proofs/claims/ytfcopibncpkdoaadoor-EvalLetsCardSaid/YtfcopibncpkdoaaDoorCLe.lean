/- A let is the same as its body in the name's place; lets and values that are not used do not matter (EvalLets): the tied card. -/
import Derived.Test.YtfcopibncpkdoaaDoorK6
set_option linter.all false
set_option maxRecDepth 100000
set_option maxHeartbeats 8000000
set_option linter.all false
namespace Go.Proofs.YtfcopibncpkdoaaDoor
open Go Go.VL Go.ChangeShapes Go.WideShapes Go.ChangeAt Go.RowKit
theorem lets_lifted (os : Os) (started : os.Started) (H : Type) (enc : TypeId × Value → H) :
    ReturnsInHanded {} Tryd.checked os 3 .any (fun w args => (Rows.evalLetsSpec.pre enc Tryd.prog Tryd.f3 [] false w args ∧ laidMetH Tryd.prog laidL w) ∧ sizedMet enc Tryd.prog Tryd.f3 (OpenSpec.ofChange Rows.evalLetsSpec) false w args)
      (Rows.evalLetsSpec.post enc Tryd.prog Tryd.f3 false true false false) := by
  refine law_laid (C := Tryd.checked) (laid := laidL) (tb := 4) Tryd.own started (by kernel_rfl) Tryd.func3
    (ChangeSpec.witness_shaped (enc := enc) (C := Tryd.checked) (os := os) (X := fun w _ => laidMetH Tryd.prog laidL w) false (World.doorLaid Tryd.prog 400 os) #[.string ⟨#[]⟩, .agg #[.int .i64 0, .int .i64 0, .int .i64 0, .string ⟨#[]⟩, .slice none 0 0], .agg #[.int .i64 0, .int .i64 0, .int .i64 0, .string ⟨#[]⟩, .slice none 0 0], .slice none 0 0, .agg #[.string ⟨#[]⟩, .int .i64 0, .int .i64 0, .int .i64 0, .string ⟨#[]⟩, .slice none 0 0]] 8 rfl (World.shaped_of_RefB (by kernel_rfl) (by kernel_rfl)) (by kernel_rfl) (by kernel_rfl) (by kernel_rfl) (door_met os _))
    Tryd.laidOut Tryd.seqs (by kernel_rfl) rfl (fun ds h => ?_) (by kernel_rfl) (by kernel_rfl) (fun us h => ?_) glob_laid
  · match ds, h with
    | [_, _, _, _, _], _ => rfl
  · match us, h with
    | [a0, a1, a2, a3, a4], h =>
      obtain ⟨h0, h1, h2, h3, h4, _⟩ := h
      obtain ⟨x0, rfl⟩ := str_of h0
      obtain ⟨r, rfl, h1r⟩ := h1.agg sf24
      obtain ⟨x1, rfl⟩ := expU_of h1r
      obtain ⟨r, rfl, h2r⟩ := h2.agg sf24
      obtain ⟨x2, rfl⟩ := expU_of h2r
      obtain ⟨x3, rfl⟩ := vars_of h3
      obtain ⟨r, rfl, h4r⟩ := h4.agg sf27
      obtain ⟨x4, rfl, _⟩ := let_of h4r
      exact lets_fun x0 x1 x2 x3 x4
theorem lets_row : Rows.EvalLetsSaid :=
  OpenClaim.holds_of_wide 3 Tryd.f3 rfl rfl rfl rfl rfl rfl rfl ⟨rfl, rfl, rfl, rfl, rfl⟩ rfl rfl rfl rfl rfl (by kernel_rfl) Tryd.func3 (by kernel_rfl)
    (of_decide_eq_true (by kernel_rfl)) (by unfold Func.isWrapper; first | (rw [if_pos (by decide +kernel)]; kernel_rfl) | (rw [if_neg (by decide +kernel)]; exact ⟨rfl, rfl⟩))
    (fun os started H enc _ => lets_lifted os started H enc)
theorem lets_holds : Rows.EvalLetsCardSaid :=
  Claim7.holds_tied_plain_at .later [] [.data] true (true, "836c78b0d37ce726ae33926cfee1b994c632ea9fd56a9a1f56cf46848f183d57") true
    lets_row (fun _ h => by cases h) (by kernel_rfl) (fun _ h => by cases h) evalLets_row_tie rfl ⟨rfl, rfl⟩ (by kernel_rfl) rfl
    (fun f fn hf hfn => by
      obtain rfl : f = 3 := Option.some.inj ((show Tryd.prog.funcNamed "stokvel/stokvellaw17.EvalLets" = some 3 by kernel_rfl).symm.trans hf) |>.symm
      obtain rfl : fn = Tryd.f3 := (Option.some.inj (Tryd.func3.symm.trans hfn)).symm
      exact ⟨by kernel_rfl, fun j t ht => by
        have hm : t ∈ Tryd.f3.params.toList := by simpa using Array.mem_of_getElem? ht
        have hall : (Tryd.f3.params.toList.all fun u => !Tryd.prog.wantsStandIn u) = true := by kernel_rfl
        exact (show Tryd.prog.wantsStandIn t = false by simpa using List.all_eq_true.1 hall t hm)⟩)
    (by kernel_rfl)
end Go.Proofs.YtfcopibncpkdoaaDoor
