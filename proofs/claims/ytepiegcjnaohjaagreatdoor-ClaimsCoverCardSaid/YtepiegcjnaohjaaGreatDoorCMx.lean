import Derived.Test.YtepiegcjnaohjaaGreatDoorP7
import Derived.Test.YtepiegcjnaohjaaGreatDoorCMw
set_option linter.all false
set_option maxRecDepth 100000
set_option maxHeartbeats 8000000
set_option linter.all false
namespace Go.Proofs.YtepiegcjnaohjaaGreatDoor
open Go Go.VL Go.ChangeShapes Go.WideShapes Go.ChangeAt Go.RowKit
theorem zjz (os : Os) (started : os.Started) (H : Type) (enc : TypeId × Value -> H) :
  ReturnsInHanded {} Tryz.checked os 10 .any (fun w args => (Rows.claimsCoverSpec.pre enc Tryz.prog Tryz.f10 [] false w args /\ laidMetH Tryz.prog zny w) /\ sizedMet enc Tryz.prog Tryz.f10 (OpenSpec.ofChange Rows.claimsCoverSpec) false w args)
   (Rows.claimsCoverSpec.post enc Tryz.prog Tryz.f10 false true false false) := by
 refine zoY (C := Tryz.checked) (laid := zny) (tb := 4) Tryz.own started (by kernel_rfl) Tryz.func10
  (ChangeSpec.witness_shaped (enc := enc) (C := Tryz.checked) (os := os) (X := fun w _ => laidMetH Tryz.prog zny w) false (World.doorLaid Tryz.prog 400 os) #[.agg #[.int .i64 0, .int .i64 0, .int .i64 0, .int .i64 0, .int .i64 0, .int .i64 0, .bool false, .int .i64 0, .int .i64 0, .int .i64 0, .int .i64 0, .slice none 0 0, .int .i64 0, .int .i64 0, .int .i64 0, .string ⟨#[]⟩, .slice none 0 0, .int .i64 0, .int .i64 0, .int .i64 0, .string ⟨#[]⟩, .slice none 0 0, .int .i64 0, .int .i64 0, .int .i64 0, .string ⟨#[]⟩, .slice none 0 0, .int .i64 0, .int .i64 0, .int .i64 0, .string ⟨#[]⟩, .slice none 0 0, .int .i64 0, .int .i64 0, .int .i64 0, .string ⟨#[]⟩, .slice none 0 0], .int .i64 0, .int .i64 0, .int .i64 0, .int .i64 0, .int .i64 0] 8 rfl (World.shaped_of_RefB (by kernel_rfl) (by kernel_rfl)) (by kernel_rfl) (by kernel_rfl) (by kernel_rfl) (zpc os _))
  Tryz.zqB Tryz.zvJ (by kernel_rfl) rfl (fun ds h => ?_) (by kernel_rfl) (by kernel_rfl) (fun us h => ?_) znK
 ·match ds, h with
  | [_, _, _, _, _, _], _ => rfl
 ·match us, h with
  | [a0, a1, a2, a3, a4, a5], h =>
   obtain ⟨h0, h1, h2, h3, h4, h5, _⟩ := h;obtain ⟨r, rfl, h0r⟩ := h0.agg zsH;obtain ⟨x0, rfl⟩ := zsv h0r;obtain ⟨x1, rfl⟩ := zjg h1;obtain ⟨x2, rfl⟩ := zjg h2;obtain ⟨x3, rfl⟩ := zjg h3;obtain ⟨x4, rfl⟩ := zjg h4;obtain ⟨x5, rfl⟩ := zjg h5;exact znU x0 x1 x2 x3 x4 x5
theorem cover_row : Rows.ClaimsCoverSaid :=
 OpenClaim.holds_of_wide 10 Tryz.f10 rfl rfl rfl rfl rfl rfl rfl ⟨rfl, rfl, rfl, rfl, rfl⟩ rfl rfl rfl rfl rfl (by kernel_rfl) Tryz.func10 zki
  (of_decide_eq_true (by kernel_rfl)) (by unfold Func.isWrapper; first | (rw [if_pos (by decide +kernel)]; kernel_rfl) | (rw [if_neg (by decide +kernel)]; exact ⟨rfl, rfl⟩))
  (fun os started H enc _ => zjz os started H enc)
theorem cover_holds : Rows.ClaimsCoverCardSaid :=
 Claim7.holds_tied_plain_at .later [] [.data, .data] true (true, "2d9e073ddf65e1529046520e783fc9530fc0ef16865185b18e1e15803e0a0de3") true
  cover_row (fun _ h => by cases h) (by kernel_rfl) (fun _ h => by cases h) claimsCover_row_tie rfl ⟨rfl, rfl⟩ (by kernel_rfl) rfl
  (fun f fn hf hfn => by
    obtain rfl : f = 10 := Option.some.inj ((show Tryz.prog.funcNamed "stokvel/stokvellaw36.ClaimsCover" = some 10 by kernel_rfl).symm.trans hf) |>.symm
    obtain rfl : fn = Tryz.f10 := (Option.some.inj (Tryz.func10.symm.trans hfn)).symm;exact ⟨by kernel_rfl, fun j t ht => by
     have hm : t ∈ Tryz.f10.params.toList := by simpa using Array.mem_of_getElem? ht
     have hall : (Tryz.f10.params.toList.all fun u => !Tryz.prog.wantsStandIn u) = true := by kernel_rfl
     exact (show Tryz.prog.wantsStandIn t = false by simpa using List.all_eq_true.1 hall t hm)⟩)
  (by kernel_rfl)
end Go.Proofs.YtepiegcjnaohjaaGreatDoor
