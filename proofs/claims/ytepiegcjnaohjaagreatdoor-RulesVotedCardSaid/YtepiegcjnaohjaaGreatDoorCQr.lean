import Derived.Test.YtepiegcjnaohjaaGreatDoorJ8
import Derived.Test.YtepiegcjnaohjaaGreatDoorCQV
set_option linter.all false
set_option maxRecDepth 100000
set_option maxHeartbeats 8000000
set_option linter.all false
namespace Go.Proofs.YtepiegcjnaohjaaGreatDoor
open Go Go.VL Go.ChangeShapes Go.WideShapes Go.ChangeAt Go.RowKit
theorem zjA (os : Os) (started : os.Started) (H : Type) (enc : TypeId × Value -> H) :
  ReturnsInHanded {} Tryz.checked os 6 .any (fun w args => (Rows.rulesVotedSpec.pre enc Tryz.prog Tryz.f6 [] false w args /\ laidMetH Tryz.prog zop w) /\ sizedMet enc Tryz.prog Tryz.f6 (OpenSpec.ofChange Rows.rulesVotedSpec) false w args)
   (Rows.rulesVotedSpec.post enc Tryz.prog Tryz.f6 false true false false) := by
 refine zpR (C := Tryz.checked) (laid := zop) (tb := 4) Tryz.own started (by kernel_rfl) Tryz.func6
  (ChangeSpec.witness_shaped (enc := enc) (C := Tryz.checked) (os := os) (X := fun w _ => laidMetH Tryz.prog zop w) false (World.doorLaid Tryz.prog 400 os) #[.string ⟨#[]⟩, .slice none 0 0, .slice none 0 0, .slice none 0 0] 8 rfl (World.shaped_of_RefB (by kernel_rfl) (by kernel_rfl)) (by kernel_rfl) (by kernel_rfl) (by kernel_rfl) (zqc os _))
  Tryz.zrW Tryz.zwz (by kernel_rfl) rfl (fun ds h => ?_) (by kernel_rfl) (by kernel_rfl) (fun us h => ?_) zoD
 ·match ds, h with
  | [_, _, _, _], _ => rfl
 ·match us, h with
  | [a0, a1, a2, a3], h =>
   obtain ⟨h0, h1, h2, h3, _⟩ := h;obtain ⟨x0, rfl⟩ := zsp h0;obtain ⟨x1, rfl⟩ := zrs h1;obtain ⟨x2, rfl⟩ := zru h2;obtain ⟨x3, rfl, x3b⟩ := zsm h3;exact znp x0 x1 x2 x3 x3b
theorem voted_row : Rows.RulesVotedSaid :=
 OpenClaim.holds_of_wide 6 Tryz.f6 rfl rfl rfl rfl rfl rfl rfl ⟨rfl, rfl, rfl, rfl, rfl⟩ rfl rfl rfl rfl rfl (by kernel_rfl) Tryz.func6 zkP
  (of_decide_eq_true (by kernel_rfl)) (by unfold Func.isWrapper; first | (rw [if_pos (by decide +kernel)]; kernel_rfl) | (rw [if_neg (by decide +kernel)]; exact ⟨rfl, rfl⟩))
  (fun os started H enc _ => zjA os started H enc)
theorem voted_holds : Rows.RulesVotedCardSaid :=
 Claim7.holds_tied_plain_at .later [] [.data] true (true, "2d9e073ddf65e1529046520e783fc9530fc0ef16865185b18e1e15803e0a0de3") true
  voted_row (fun _ h => by cases h) (by kernel_rfl) (fun _ h => by cases h) rulesVoted_row_tie rfl ⟨rfl, rfl⟩ (by kernel_rfl) rfl
  (fun f fn hf hfn => by
    obtain rfl : f = 6 := Option.some.inj ((show Tryz.prog.funcNamed "stokvel/stokvellaw34.RulesVoted" = some 6 by kernel_rfl).symm.trans hf) |>.symm
    obtain rfl : fn = Tryz.f6 := (Option.some.inj (Tryz.func6.symm.trans hfn)).symm;exact ⟨by kernel_rfl, fun j t ht => by
     have hm : t ∈ Tryz.f6.params.toList := by simpa using Array.mem_of_getElem? ht
     have hall : (Tryz.f6.params.toList.all fun u => !Tryz.prog.wantsStandIn u) = true := by kernel_rfl
     exact (show Tryz.prog.wantsStandIn t = false by simpa using List.all_eq_true.1 hall t hm)⟩)
  (by kernel_rfl)
end Go.Proofs.YtepiegcjnaohjaaGreatDoor
