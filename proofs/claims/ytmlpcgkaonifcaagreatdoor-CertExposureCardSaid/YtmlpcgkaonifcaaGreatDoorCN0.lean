import Derived.Test.YtmlpcgkaonifcaaGreatDoorB7
import Derived.Test.YtmlpcgkaonifcaaGreatDoorCNy
set_option linter.all false
set_option maxRecDepth 100000
set_option maxHeartbeats 8000000
set_option linter.all false
namespace Go.Proofs.YtmlpcgkaonifcaaGreatDoor
open Go Go.VL Go.ChangeShapes Go.WideShapes Go.ChangeAt Go.RowKit
theorem zne (os : Os) (started : os.Started) (H : Type) (enc : TypeId × Value -> H) :
  ReturnsInHanded {} Tryz.checked os 3 .any (fun w args => (Rows.certExposureSpec.pre enc Tryz.prog Tryz.f3 [] false w args /\ laidMetH Tryz.prog zrk w) /\ sizedMet enc Tryz.prog Tryz.f3 (OpenSpec.ofChange Rows.certExposureSpec) false w args)
   (Rows.certExposureSpec.post enc Tryz.prog Tryz.f3 false true false false) := by
 refine ztp (C := Tryz.checked) (laid := zrk) (tb := 4) Tryz.own started (by kernel_rfl) Tryz.func3
  (ChangeSpec.witness_shaped (enc := enc) (C := Tryz.checked) (os := os) (X := fun w _ => laidMetH Tryz.prog zrk w) false (World.doorLaid Tryz.prog 400 os) #[.agg #[.int .i64 0, .int .i64 0, .int .i64 0, .int .i64 0, .int .i64 0, .int .i64 0, .bool false, .int .i64 0, .int .i64 0, .int .i64 0, .int .i64 0, .slice none 0 0, .int .i64 0, .int .i64 0, .int .i64 0, .string ⟨#[]⟩, .slice none 0 0, .int .i64 0, .int .i64 0, .int .i64 0, .string ⟨#[]⟩, .slice none 0 0, .int .i64 0, .int .i64 0, .int .i64 0, .string ⟨#[]⟩, .slice none 0 0, .int .i64 0, .int .i64 0, .int .i64 0, .string ⟨#[]⟩, .slice none 0 0, .int .i64 0, .int .i64 0, .int .i64 0, .string ⟨#[]⟩, .slice none 0 0], .int .i64 0, .slice none 0 0, .int .i64 0] 8 rfl (World.shaped_of_RefB (by kernel_rfl) (by kernel_rfl)) (by kernel_rfl) (by kernel_rfl) (by kernel_rfl) (ztP os _))
  Tryz.zv3 Tryz.zCY (by kernel_rfl) rfl (fun ds h => ?_) (by kernel_rfl) (by kernel_rfl) (fun us h => ?_) zry
 ·match ds, h with
  | [_, _, _, _], _ => rfl
 ·match us, h with
  | [a0, a1, a2, a3], h =>
   obtain ⟨h0, h1, h2, h3, _⟩ := h;obtain ⟨r, rfl, h0r⟩ := h0.agg zyl;obtain ⟨x0, rfl⟩ := zx7 h0r;obtain ⟨x1, rfl⟩ := zuE h1;obtain ⟨x2, rfl⟩ := zvm h2;obtain ⟨x3, rfl⟩ := zuE h3;exact ztG x0 x1 x2 x3
theorem expo_row : Rows.CertExposureSaid :=
 OpenClaim.holds_of_wide 3 Tryz.f3 rfl rfl rfl rfl rfl rfl rfl ⟨rfl, rfl, rfl, rfl, rfl⟩ rfl rfl rfl rfl rfl (by kernel_rfl) Tryz.func3 zpv
  (of_decide_eq_true (by kernel_rfl)) (by unfold Func.isWrapper; first | (rw [if_pos (by decide +kernel)]; kernel_rfl) | (rw [if_neg (by decide +kernel)]; exact ⟨rfl, rfl⟩))
  (fun os started H enc _ => zne os started H enc)
theorem expo_holds : Rows.CertExposureCardSaid :=
 Claim7.holds_tied_plain_at .later [] [.data] true (true, "2c2480931bd07c7f140683dfe7c0a9a8daabefa9d0ba032338be53c0cb7ada59") true
  expo_row (fun _ h => by cases h) (by kernel_rfl) (fun _ h => by cases h) certExposure_row_tie rfl ⟨rfl, rfl⟩ (by kernel_rfl) rfl
  (fun f fn hf hfn => by
    obtain rfl : f = 3 := Option.some.inj ((show Tryz.prog.funcNamed "stokvel/stokvellaw22.CertExposure" = some 3 by kernel_rfl).symm.trans hf) |>.symm
    obtain rfl : fn = Tryz.f3 := (Option.some.inj (Tryz.func3.symm.trans hfn)).symm;exact ⟨by kernel_rfl, fun j t ht => by
     have hm : t ∈ Tryz.f3.params.toList := by simpa using Array.mem_of_getElem? ht
     have hall : (Tryz.f3.params.toList.all fun u => !Tryz.prog.wantsStandIn u) = true := by kernel_rfl
     exact (show Tryz.prog.wantsStandIn t = false by simpa using List.all_eq_true.1 hall t hm)⟩)
  (by kernel_rfl)
end Go.Proofs.YtmlpcgkaonifcaaGreatDoor
