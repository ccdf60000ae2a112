import Derived.Test.YtmlpcgkaonifcaaGreatDoorA7
import Derived.Test.YtmlpcgkaonifcaaGreatDoorCNx
set_option linter.all false
set_option maxRecDepth 100000
set_option maxHeartbeats 8000000
set_option linter.all false
namespace Go.Proofs.YtmlpcgkaonifcaaGreatDoor
open Go Go.VL Go.ChangeShapes Go.WideShapes Go.ChangeAt Go.RowKit
theorem zmF (os : Os) (started : os.Started) (H : Type) (enc : TypeId × Value -> H) :
  ReturnsInHanded {} Tryz.checked os 4 .any (fun w args => (Rows.certRoomSpec.pre enc Tryz.prog Tryz.f4 [] false w args /\ laidMetH Tryz.prog zrf w) /\ sizedMet enc Tryz.prog Tryz.f4 (OpenSpec.ofChange Rows.certRoomSpec) false w args)
   (Rows.certRoomSpec.post enc Tryz.prog Tryz.f4 false true false false) := by
 refine ztg (C := Tryz.checked) (laid := zrf) (tb := 4) Tryz.own started (by kernel_rfl) Tryz.func4
  (ChangeSpec.witness_shaped (enc := enc) (C := Tryz.checked) (os := os) (X := fun w _ => laidMetH Tryz.prog zrf w) false (World.doorLaid Tryz.prog 400 os) #[.agg #[.int .i64 0, .int .i64 0, .int .i64 0, .int .i64 0, .int .i64 0, .int .i64 0, .bool false, .int .i64 0, .int .i64 0, .int .i64 0, .int .i64 0, .slice none 0 0, .int .i64 0, .int .i64 0, .int .i64 0, .string ⟨#[]⟩, .slice none 0 0, .int .i64 0, .int .i64 0, .int .i64 0, .string ⟨#[]⟩, .slice none 0 0, .int .i64 0, .int .i64 0, .int .i64 0, .string ⟨#[]⟩, .slice none 0 0, .int .i64 0, .int .i64 0, .int .i64 0, .string ⟨#[]⟩, .slice none 0 0, .int .i64 0, .int .i64 0, .int .i64 0, .string ⟨#[]⟩, .slice none 0 0], .int .i64 0, .slice none 0 0] 8 rfl (World.shaped_of_RefB (by kernel_rfl) (by kernel_rfl)) (by kernel_rfl) (by kernel_rfl) (by kernel_rfl) (ztH os _))
  Tryz.zvU Tryz.zCK (by kernel_rfl) rfl (fun ds h => ?_) (by kernel_rfl) (by kernel_rfl) (fun us h => ?_) zrt
 ·match ds, h with
  | [_, _, _], _ => rfl
 ·match us, h with
  | [a0, a1, a2], h =>
   obtain ⟨h0, h1, h2, _⟩ := h;obtain ⟨r, rfl, h0r⟩ := h0.agg zx8;obtain ⟨x0, rfl⟩ := zxU h0r;obtain ⟨x1, rfl⟩ := zwt h1;obtain ⟨x2, rfl⟩ := zvd h2;exact zsQ x0 x1 x2
theorem room_row : Rows.CertRoomSaid :=
 OpenClaim.holds_of_wide 4 Tryz.f4 rfl rfl rfl rfl rfl rfl rfl ⟨rfl, rfl, rfl, rfl, rfl⟩ rfl rfl rfl rfl rfl (by kernel_rfl) Tryz.func4 zoA
  (of_decide_eq_true (by kernel_rfl)) (by unfold Func.isWrapper; first | (rw [if_pos (by decide +kernel)]; kernel_rfl) | (rw [if_neg (by decide +kernel)]; exact ⟨rfl, rfl⟩))
  (fun os started H enc _ => zmF os started H enc)
theorem room_holds : Rows.CertRoomCardSaid :=
 Claim7.holds_tied_plain_at .later [] [.data] true (true, "2c2480931bd07c7f140683dfe7c0a9a8daabefa9d0ba032338be53c0cb7ada59") true
  room_row (fun _ h => by cases h) (by kernel_rfl) (fun _ h => by cases h) certRoom_row_tie rfl ⟨rfl, rfl⟩ (by kernel_rfl) rfl
  (fun f fn hf hfn => by
    obtain rfl : f = 4 := Option.some.inj ((show Tryz.prog.funcNamed "stokvel/stokvellaw22.CertRoom" = some 4 by kernel_rfl).symm.trans hf) |>.symm
    obtain rfl : fn = Tryz.f4 := (Option.some.inj (Tryz.func4.symm.trans hfn)).symm;exact ⟨by kernel_rfl, fun j t ht => by
     have hm : t ∈ Tryz.f4.params.toList := by simpa using Array.mem_of_getElem? ht
     have hall : (Tryz.f4.params.toList.all fun u => !Tryz.prog.wantsStandIn u) = true := by kernel_rfl
     exact (show Tryz.prog.wantsStandIn t = false by simpa using List.all_eq_true.1 hall t hm)⟩)
  (by kernel_rfl)
end Go.Proofs.YtmlpcgkaonifcaaGreatDoor
