/- Claims: the story of a claim (ClaimsStory): the tied card. -/
import Derived.Test.YtepiegcjnaohjaaGreatDoorS6
import Derived.Test.YtepiegcjnaohjaaGreatDoorCMR
set_option linter.all false
set_option maxRecDepth 100000
set_option maxHeartbeats 8000000
set_option linter.all false
namespace Go.Proofs.YtepiegcjnaohjaaGreatDoor
open Go Go.VL Go.ChangeShapes Go.WideShapes Go.ChangeAt Go.RowKit
theorem zhz (os : Os) (started : os.Started) (H : Type) (enc : TypeId × Value → H) :
  ReturnsInHanded {} Tryz.checked os 8 .any (fun w args => (Rows.claimsStorySpec.pre enc Tryz.prog Tryz.f8 [] false w args ∧ laidMetH Tryz.prog zlS w) ∧ sizedMet enc Tryz.prog Tryz.f8 (OpenSpec.ofChange Rows.claimsStorySpec) false w args)
   (Rows.claimsStorySpec.post enc Tryz.prog Tryz.f8 false true false false) := by
 refine zm1 (C := Tryz.checked) (laid := zlS) (tb := 4) Tryz.own started (by kernel_rfl) Tryz.func8
  (ChangeSpec.witness_shaped (enc := enc) (C := Tryz.checked) (os := os) (X := fun w _ => laidMetH Tryz.prog zlS w) false (World.doorLaid Tryz.prog 400 os) #[.agg #[.int .i64 0, .int .i64 0, .int .i64 0, .slice none 0 0, .int .i64 0, .int .i64 0, .int .i64 0, .int .i64 0, .int .i64 0, .int .i64 0, .slice none 0 0, .slice none 0 0, .string ⟨#[]⟩], .agg #[.int .i64 0, .int .i64 0, .int .i64 0, .int .i64 0, .int .i64 0, .int .i64 0, .bool false, .int .i64 0, .int .i64 0, .int .i64 0, .int .i64 0, .slice none 0 0, .int .i64 0, .int .i64 0, .int .i64 0, .string ⟨#[]⟩, .slice none 0 0, .int .i64 0, .int .i64 0, .int .i64 0, .string ⟨#[]⟩, .slice none 0 0, .int .i64 0, .int .i64 0, .int .i64 0, .string ⟨#[]⟩, .slice none 0 0, .int .i64 0, .int .i64 0, .int .i64 0, .string ⟨#[]⟩, .slice none 0 0, .int .i64 0, .int .i64 0, .int .i64 0, .string ⟨#[]⟩, .slice none 0 0], .slice none 0 0, .slice none 0 0, .int .i64 0, .slice none 0 0] 8 rfl (World.shaped_of_RefB (by kernel_rfl) (by kernel_rfl)) (by kernel_rfl) (by kernel_rfl) (by kernel_rfl) (zni os _))
  Tryz.zox Tryz.zsW (by kernel_rfl) rfl (fun ds h => ?_) (by kernel_rfl) (by kernel_rfl) (fun us h => ?_) zl3
 ·match ds, h with
  | [_, _, _, _, _, _], _ => rfl
 ·match us, h with
  | [a0, a1, a2, a3, a4, a5], h =>
   obtain ⟨h0, h1, h2, h3, h4, h5, _⟩ := h
   obtain ⟨rx0, rfl, h0r⟩ := h0.agg zqm
   obtain ⟨x0, rfl⟩ := zp7 h0r
   obtain ⟨r, rfl, h1r⟩ := h1.agg zqn
   obtain ⟨x1, rfl⟩ := zqb h1r
   obtain ⟨x2, rfl⟩ := zlW h2
   obtain ⟨x3, rfl⟩ := zlW h3
   obtain ⟨x4, rfl⟩ := zo2 h4
   obtain ⟨x5, rfl⟩ := zou h5
   exact zk8 x0 x1 x2 x3 x4 x5
theorem story_row : Rows.ClaimsStorySaid :=
 OpenClaim.holds_of_wide 8 Tryz.f8 rfl rfl rfl rfl rfl rfl rfl ⟨rfl, rfl, rfl, rfl, rfl⟩ rfl rfl rfl rfl rfl (by kernel_rfl) Tryz.func8 ziN
  (of_decide_eq_true (by kernel_rfl)) (by unfold Func.isWrapper; first | (rw [if_pos (by decide +kernel)]; kernel_rfl) | (rw [if_neg (by decide +kernel)]; exact ⟨rfl, rfl⟩))
  (fun os started H enc _ => zhz os started H enc)
theorem story_holds : Rows.ClaimsStoryCardSaid :=
 Claim7.holds_tied_plain_at .later [] [.data, .data] true (true, "2d9e073ddf65e1529046520e783fc9530fc0ef16865185b18e1e15803e0a0de3") true
  story_row (fun _ h => by cases h) (by kernel_rfl) (fun _ h => by cases h) claimsStory_row_tie rfl ⟨rfl, rfl⟩ (by kernel_rfl) rfl
  (fun f fn hf hfn => by
    obtain rfl : f = 8 := Option.some.inj ((show Tryz.prog.funcNamed "stokvel/stokvellaw36.ClaimsStory" = some 8 by kernel_rfl).symm.trans hf) |>.symm
    obtain rfl : fn = Tryz.f8 := (Option.some.inj (Tryz.func8.symm.trans hfn)).symm
    exact ⟨by kernel_rfl, fun j t ht => by
     have hm : t ∈ Tryz.f8.params.toList := by simpa using Array.mem_of_getElem? ht
     have hall : (Tryz.f8.params.toList.all fun u => !Tryz.prog.wantsStandIn u) = true := by kernel_rfl
     exact (show Tryz.prog.wantsStandIn t = false by simpa using List.all_eq_true.1 hall t hm)⟩)
  (by kernel_rfl)
end Go.Proofs.YtepiegcjnaohjaaGreatDoor
