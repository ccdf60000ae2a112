/- Claims: whose voices count (ClaimsVoices): the tied card. -/
import Derived.Test.YtepiegcjnaohjaaGreatDoorV6
import Derived.Test.YtepiegcjnaohjaaGreatDoorCMQ
set_option linter.all false
set_option maxRecDepth 100000
set_option maxHeartbeats 8000000
set_option linter.all false
namespace Go.Proofs.YtepiegcjnaohjaaGreatDoor
open Go Go.VL Go.ChangeShapes Go.WideShapes Go.ChangeAt Go.RowKit
theorem voices_lifted (os : Os) (started : os.Started) (H : Type) (enc : TypeId × Value → H) :
    ReturnsInHanded {} Tryz.checked os 9 .any (fun w args => (Rows.claimsVoicesSpec.pre enc Tryz.prog Tryz.f9 [] false w args ∧ laidMetH Tryz.prog laidL w) ∧ sizedMet enc Tryz.prog Tryz.f9 (OpenSpec.ofChange Rows.claimsVoicesSpec) false w args)
      (Rows.claimsVoicesSpec.post enc Tryz.prog Tryz.f9 false true false false) := by
  refine law_laid (C := Tryz.checked) (laid := laidL) (tb := 4) Tryz.own started (by kernel_rfl) Tryz.func9
    (ChangeSpec.witness_shaped (enc := enc) (C := Tryz.checked) (os := os) (X := fun w _ => laidMetH Tryz.prog laidL w) false (World.doorLaid Tryz.prog 400 os) #[.agg #[.int .i64 0, .int .i64 0, .int .i64 0, .int .i64 0, .int .i64 0, .int .i64 0, .int .i64 0, .slice none 0 0, .slice none 0 0, .int .i64 0, .int .i64 0, .int .i64 0], .agg #[.int .i64 0, .int .i64 0, .int .i64 0, .int .i64 0, .int .i64 0, .int .i64 0, .bool false, .int .i64 0, .int .i64 0, .int .i64 0, .int .i64 0, .slice none 0 0, .int .i64 0, .int .i64 0, .int .i64 0, .string ⟨#[]⟩, .slice none 0 0, .int .i64 0, .int .i64 0, .int .i64 0, .string ⟨#[]⟩, .slice none 0 0, .int .i64 0, .int .i64 0, .int .i64 0, .string ⟨#[]⟩, .slice none 0 0, .int .i64 0, .int .i64 0, .int .i64 0, .string ⟨#[]⟩, .slice none 0 0, .int .i64 0, .int .i64 0, .int .i64 0, .string ⟨#[]⟩, .slice none 0 0], .int .i64 0, .slice none 0 0, .int .i64 0] 8 rfl (World.shaped_of_RefB (by kernel_rfl) (by kernel_rfl)) (by kernel_rfl) (by kernel_rfl) (by kernel_rfl) (door_met os _))
    Tryz.laidOut Tryz.seqs (by kernel_rfl) rfl (fun ds h => ?_) (by kernel_rfl) (by kernel_rfl) (fun us h => ?_) glob_laid
  · match ds, h with
    | [_, _, _, _, _], _ => rfl
  · match us, h with
    | [a0, a1, a2, a3, a4], h =>
      obtain ⟨h0, h1, h2, h3, h4, _⟩ := h
      obtain ⟨rx0, rfl, h0r⟩ := h0.agg sf89
      obtain ⟨x0, rfl⟩ := cl_of h0r
      obtain ⟨r, rfl, h1r⟩ := h1.agg sf57
      obtain ⟨x1, rfl⟩ := by_of h1r
      obtain ⟨x2, rfl⟩ := int_of h2
      obtain ⟨x3, rfl⟩ := voices_of h3
      obtain ⟨x4, rfl⟩ := int_of h4
      exact voices_law x0 x1 x2 x3 x4
theorem voices_row : Rows.ClaimsVoicesSaid :=
  OpenClaim.holds_of_wide 9 Tryz.f9 rfl rfl rfl rfl rfl rfl rfl ⟨rfl, rfl, rfl, rfl, rfl⟩ rfl rfl rfl rfl rfl (by kernel_rfl) Tryz.func9 voices_facts
    (of_decide_eq_true (by kernel_rfl)) (by unfold Func.isWrapper; first | (rw [if_pos (by decide +kernel)]; kernel_rfl) | (rw [if_neg (by decide +kernel)]; exact ⟨rfl, rfl⟩))
    (fun os started H enc _ => voices_lifted os started H enc)
theorem voices_holds : Rows.ClaimsVoicesCardSaid :=
  Claim7.holds_tied_plain_at .later [] [.data, .data] true (true, "2d9e073ddf65e1529046520e783fc9530fc0ef16865185b18e1e15803e0a0de3") true
    voices_row (fun _ h => by cases h) (by kernel_rfl) (fun _ h => by cases h) claimsVoices_row_tie rfl ⟨rfl, rfl⟩ (by kernel_rfl) rfl
    (fun f fn hf hfn => by
      obtain rfl : f = 9 := Option.some.inj ((show Tryz.prog.funcNamed "stokvel/stokvellaw36.ClaimsVoices" = some 9 by kernel_rfl).symm.trans hf) |>.symm
      obtain rfl : fn = Tryz.f9 := (Option.some.inj (Tryz.func9.symm.trans hfn)).symm
      exact ⟨by kernel_rfl, fun j t ht => by
        have hm : t ∈ Tryz.f9.params.toList := by simpa using Array.mem_of_getElem? ht
        have hall : (Tryz.f9.params.toList.all fun u => !Tryz.prog.wantsStandIn u) = true := by kernel_rfl
        exact (show Tryz.prog.wantsStandIn t = false by simpa using List.all_eq_true.1 hall t hm)⟩)
    (by kernel_rfl)
end Go.Proofs.YtepiegcjnaohjaaGreatDoor
