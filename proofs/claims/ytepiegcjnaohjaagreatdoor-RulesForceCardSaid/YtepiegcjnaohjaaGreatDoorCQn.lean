/- Rules: what takes effect, what is void (RulesForce): the tied card. -/
import Derived.Test.YtepiegcjnaohjaaGreatDoorL7
import Derived.Test.YtepiegcjnaohjaaGreatDoorCQF
set_option linter.all false
set_option maxRecDepth 100000
set_option maxHeartbeats 8000000
set_option linter.all false
namespace Go.Proofs.YtepiegcjnaohjaaGreatDoor
open Go Go.VL Go.ChangeShapes Go.WideShapes Go.ChangeAt Go.RowKit
theorem zj6 (os : Os) (started : os.Started) (H : Type) (enc : TypeId × Value → H) :
  ReturnsInHanded {} Tryz.checked os 4 .any (fun w args => (Rows.rulesForceSpec.pre enc Tryz.prog Tryz.f4 [] false w args ∧ laidMetH Tryz.prog znS w) ∧ sizedMet enc Tryz.prog Tryz.f4 (OpenSpec.ofChange Rows.rulesForceSpec) false w args)
   (Rows.rulesForceSpec.post enc Tryz.prog Tryz.f4 false true false false) := by
 refine zpj (C := Tryz.checked) (laid := znS) (tb := 4) Tryz.own started (by kernel_rfl) Tryz.func4
  (ChangeSpec.witness_shaped (enc := enc) (C := Tryz.checked) (os := os) (X := fun w _ => laidMetH Tryz.prog znS w) false (World.doorLaid Tryz.prog 400 os) #[.int .i64 0, .slice none 0 0] 8 rfl (World.shaped_of_RefB (by kernel_rfl) (by kernel_rfl)) (by kernel_rfl) (by kernel_rfl) (by kernel_rfl) (zpG os _))
  Tryz.zrh Tryz.zvJ (by kernel_rfl) rfl (fun ds h => ?_) (by kernel_rfl) (by kernel_rfl) (fun us h => ?_) zn8
 ·match ds, h with
  | [_, _], _ => rfl
 ·match us, h with
  | [a0, a1], h =>
   obtain ⟨h0, h1, _⟩ := h
   obtain ⟨x0, rfl⟩ := zrU h0
   obtain ⟨x1, rfl⟩ := zqM h1
   exact zoe x0 x1
theorem force_row : Rows.RulesForceSaid :=
 OpenClaim.holds_of_wide 4 Tryz.f4 rfl rfl rfl rfl rfl rfl rfl ⟨rfl, rfl, rfl, rfl, rfl⟩ rfl rfl rfl rfl rfl (by kernel_rfl) Tryz.func4 zkV
  (of_decide_eq_true (by kernel_rfl)) (by unfold Func.isWrapper; first | (rw [if_pos (by decide +kernel)]; kernel_rfl) | (rw [if_neg (by decide +kernel)]; exact ⟨rfl, rfl⟩))
  (fun os started H enc _ => zj6 os started H enc)
theorem force_holds : Rows.RulesForceCardSaid :=
 Claim7.holds_tied_plain_at .later [] [.data] true (true, "2d9e073ddf65e1529046520e783fc9530fc0ef16865185b18e1e15803e0a0de3") true
  force_row (fun _ h => by cases h) (by kernel_rfl) (fun _ h => by cases h) rulesForce_row_tie rfl ⟨rfl, rfl⟩ (by kernel_rfl) rfl
  (fun f fn hf hfn => by
    obtain rfl : f = 4 := Option.some.inj ((show Tryz.prog.funcNamed "stokvel/stokvellaw34.RulesForce" = some 4 by kernel_rfl).symm.trans hf) |>.symm
    obtain rfl : fn = Tryz.f4 := (Option.some.inj (Tryz.func4.symm.trans hfn)).symm
    exact ⟨by kernel_rfl, fun j t ht => by
     have hm : t ∈ Tryz.f4.params.toList := by simpa using Array.mem_of_getElem? ht
     have hall : (Tryz.f4.params.toList.all fun u => !Tryz.prog.wantsStandIn u) = true := by kernel_rfl
     exact (show Tryz.prog.wantsStandIn t = false by simpa using List.all_eq_true.1 hall t hm)⟩)
  (by kernel_rfl)
end Go.Proofs.YtepiegcjnaohjaaGreatDoor
