/- Rules: the chain of two lists, one after the other (RulesSides): the tied card. -/
import Derived.Test.YtepiegcjnaohjaaGreatDoorK7
import Derived.Test.YtepiegcjnaohjaaGreatDoorCQS
set_option linter.all false
set_option maxRecDepth 100000
set_option maxHeartbeats 8000000
set_option linter.all false
namespace Go.Proofs.YtepiegcjnaohjaaGreatDoor
open Go Go.VL Go.ChangeShapes Go.WideShapes Go.ChangeAt Go.RowKit
theorem zjw (os : Os) (started : os.Started) (H : Type) (enc : TypeId × Value → H) :
  ReturnsInHanded {} Tryz.checked os 5 .any (fun w args => (Rows.rulesSidesSpec.pre enc Tryz.prog Tryz.f5 [] false w args ∧ laidMetH Tryz.prog znP w) ∧ sizedMet enc Tryz.prog Tryz.f5 (OpenSpec.ofChange Rows.rulesSidesSpec) false w args)
   (Rows.rulesSidesSpec.post enc Tryz.prog Tryz.f5 false true false false) := by
 refine zpa (C := Tryz.checked) (laid := znP) (tb := 4) Tryz.own started (by kernel_rfl) Tryz.func5
  (ChangeSpec.witness_shaped (enc := enc) (C := Tryz.checked) (os := os) (X := fun w _ => laidMetH Tryz.prog znP w) false (World.doorLaid Tryz.prog 400 os) #[.string ⟨#[]⟩, .int .i64 0, .slice none 0 0, .slice none 0 0] 8 rfl (World.shaped_of_RefB (by kernel_rfl) (by kernel_rfl)) (by kernel_rfl) (by kernel_rfl) (by kernel_rfl) (zpx os _))
  Tryz.zq8 Tryz.zvB (by kernel_rfl) rfl (fun ds h => ?_) (by kernel_rfl) (by kernel_rfl) (fun us h => ?_) zn3
 ·match ds, h with
  | [_, _, _, _], _ => rfl
 ·match us, h with
  | [a0, a1, a2, a3], h =>
   obtain ⟨h0, h1, h2, h3, _⟩ := h
   obtain ⟨x0, rfl⟩ := zrB h0
   obtain ⟨x1, rfl⟩ := zrN h1
   obtain ⟨x2, rfl⟩ := znM h2
   obtain ⟨x3, rfl⟩ := znM h3
   exact zm1 x0 x1 x2 x3
theorem sides_row : Rows.RulesSidesSaid :=
 OpenClaim.holds_of_wide 5 Tryz.f5 rfl rfl rfl rfl rfl rfl rfl ⟨rfl, rfl, rfl, rfl, rfl⟩ rfl rfl rfl rfl rfl (by kernel_rfl) Tryz.func5 zkz
  (of_decide_eq_true (by kernel_rfl)) (by unfold Func.isWrapper; first | (rw [if_pos (by decide +kernel)]; kernel_rfl) | (rw [if_neg (by decide +kernel)]; exact ⟨rfl, rfl⟩))
  (fun os started H enc _ => zjw os started H enc)
theorem sides_holds : Rows.RulesSidesCardSaid :=
 Claim7.holds_tied_plain_at .later [] [.data] true (true, "2d9e073ddf65e1529046520e783fc9530fc0ef16865185b18e1e15803e0a0de3") true
  sides_row (fun _ h => by cases h) (by kernel_rfl) (fun _ h => by cases h) rulesSides_row_tie rfl ⟨rfl, rfl⟩ (by kernel_rfl) rfl
  (fun f fn hf hfn => by
    obtain rfl : f = 5 := Option.some.inj ((show Tryz.prog.funcNamed "stokvel/stokvellaw34.RulesSides" = some 5 by kernel_rfl).symm.trans hf) |>.symm
    obtain rfl : fn = Tryz.f5 := (Option.some.inj (Tryz.func5.symm.trans hfn)).symm
    exact ⟨by kernel_rfl, fun j t ht => by
     have hm : t ∈ Tryz.f5.params.toList := by simpa using Array.mem_of_getElem? ht
     have hall : (Tryz.f5.params.toList.all fun u => !Tryz.prog.wantsStandIn u) = true := by kernel_rfl
     exact (show Tryz.prog.wantsStandIn t = false by simpa using List.all_eq_true.1 hall t hm)⟩)
  (by kernel_rfl)
end Go.Proofs.YtepiegcjnaohjaaGreatDoor
