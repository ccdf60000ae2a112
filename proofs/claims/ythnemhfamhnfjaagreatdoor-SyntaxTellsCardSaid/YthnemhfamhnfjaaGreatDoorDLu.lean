/- Syntax: Parse, ParseExp and Name return what the reference returns (SyntaxTells), for every string of at most 2100 bytes: the tied card. -/
import Derived.Test.YthnemhfamhnfjaaGreatDoorJ8
import Derived.Test.YthnemhfamhnfjaaGreatDoorDLy
set_option linter.all false
set_option maxRecDepth 100000
set_option maxHeartbeats 8000000
set_option linter.all false
namespace Go.Proofs.YthnemhfamhnfjaaGreatDoor
open Go Go.VL Go.ChangeShapes Go.WideShapes Go.ChangeAt Go.RowKit
theorem zju (os : Os) (started : os.Started) (H : Type) (enc : TypeId × Value -> H) :
  ReturnsInHanded {} Tryz.checked os 3 .any (fun w args => (Rows.syntaxTellsSpec.pre enc Tryz.prog Tryz.f3 [] false w args /\ laidMetH Tryz.prog zoL w) /\ sizedMet enc Tryz.prog Tryz.f3 (OpenSpec.ofChange Rows.syntaxTellsSpec) false w args)
   (Rows.syntaxTellsSpec.post enc Tryz.prog Tryz.f3 false true false false) := by
 refine zp0 (C := Tryz.checked) (laid := zoL) (tb := 4) Tryz.own started (by kernel_rfl) Tryz.func3
  (ChangeSpec.witness_shaped (enc := enc) (C := Tryz.checked) (os := os) (X := fun w _ => laidMetH Tryz.prog zoL w) false (World.doorLaid Tryz.prog 400 os) #[.string ⟨#[]⟩] 8 rfl (World.shaped_of_RefB (by kernel_rfl) (by kernel_rfl)) (by kernel_rfl) (by kernel_rfl) (by kernel_rfl) (zqd os _))
  Tryz.zrB Tryz.zuF (by kernel_rfl) rfl (fun ds h => ?_) (by kernel_rfl) (by kernel_rfl) (fun us h => ?_) zoU
 ·match ds, h with
  | [_], _ => rfl
 ·match us, h with
  | [a0], h =>
   obtain ⟨h0, _⟩ := h;obtain ⟨x0, rfl⟩ := zrW h0;exact znQ x0
theorem tells_row : Rows.SyntaxTellsSaid :=
 OpenClaim.holds_of_wide 3 Tryz.f3 rfl rfl rfl rfl rfl rfl rfl ⟨rfl, rfl, rfl, rfl, rfl⟩ rfl rfl rfl rfl rfl (by kernel_rfl) Tryz.func3 (by kernel_rfl)
  (of_decide_eq_true (by kernel_rfl)) (by unfold Func.isWrapper; first | (rw [if_pos (by decide +kernel)]; kernel_rfl) | (rw [if_neg (by decide +kernel)]; exact ⟨rfl, rfl⟩))
  (fun os started H enc _ => zju os started H enc)
theorem tells_holds : Rows.SyntaxTellsCardSaid :=
 Claim7.holds_tied_plain_at .later [] [.data, .data, .data, .data] true (true, "c04b2ee704424c70beb65cd5ce32dac8ef7fe7043d4747e1bb58507771a90867") true
  tells_row (fun _ h => by cases h) (by kernel_rfl) (fun _ h => by cases h) syntaxTells_row_tie rfl ⟨rfl, rfl⟩ (by kernel_rfl) rfl
  (fun f fn hf hfn => by
    obtain rfl : f = 3 := Option.some.inj ((show Tryz.prog.funcNamed "stokvel/stokvellaw15.SyntaxTells" = some 3 by kernel_rfl).symm.trans hf) |>.symm
    obtain rfl : fn = Tryz.f3 := (Option.some.inj (Tryz.func3.symm.trans hfn)).symm;exact ⟨by kernel_rfl, fun j t ht => by
     have hm : t ∈ Tryz.f3.params.toList := by simpa using Array.mem_of_getElem? ht
     have hall : (Tryz.f3.params.toList.all fun u => !Tryz.prog.wantsStandIn u) = true := by kernel_rfl
     exact (show Tryz.prog.wantsStandIn t = false by simpa using List.all_eq_true.1 hall t hm)⟩)
  (by kernel_rfl)
end Go.Proofs.YthnemhfamhnfjaaGreatDoor
