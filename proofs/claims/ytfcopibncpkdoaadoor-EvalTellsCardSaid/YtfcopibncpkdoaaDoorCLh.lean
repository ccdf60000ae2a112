/- Value and Clause return what the reference returns (EvalTells): the tied card. -/
import Derived.Test.YtfcopibncpkdoaaDoorJ7
set_option linter.all false
set_option maxRecDepth 100000
set_option maxHeartbeats 8000000
set_option linter.all false
namespace Go.Proofs.YtfcopibncpkdoaaDoor
open Go Go.VL Go.ChangeShapes Go.WideShapes Go.ChangeAt Go.RowKit
theorem zig (os : Os) (started : os.Started) (H : Type) (enc : TypeId × Value → H) :
  ReturnsInHanded {} Tryd.checked os 7 .any (fun w args => (Rows.evalTellsSpec.pre enc Tryd.prog Tryd.f7 [] false w args ∧ laidMetH Tryd.prog zmi w) ∧ sizedMet enc Tryd.prog Tryd.f7 (OpenSpec.ofChange Rows.evalTellsSpec) false w args)
   (Rows.evalTellsSpec.post enc Tryd.prog Tryd.f7 false true false false) := by
 refine znq (C := Tryd.checked) (laid := zmi) (tb := 4) Tryd.own started (by kernel_rfl) Tryd.func7
  (ChangeSpec.witness_shaped (enc := enc) (C := Tryd.checked) (os := os) (X := fun w _ => laidMetH Tryd.prog zmi w) false (World.doorLaid Tryd.prog 400 os) #[.slice none 0 0, .slice none 0 0, .agg #[.int .i64 0, .int .i64 0, .int .i64 0, .string ⟨#[]⟩, .slice none 0 0], .agg #[.int .i64 0, .int .i64 0, .int .i64 0, .int .i64 0, .int .i64 0, .int .i64 0, .bool false, .int .i64 0, .int .i64 0, .int .i64 0, .int .i64 0, .slice none 0 0, .int .i64 0, .int .i64 0, .int .i64 0, .string ⟨#[]⟩, .slice none 0 0, .int .i64 0, .int .i64 0, .int .i64 0, .string ⟨#[]⟩, .slice none 0 0, .int .i64 0, .int .i64 0, .int .i64 0, .string ⟨#[]⟩, .slice none 0 0, .int .i64 0, .int .i64 0, .int .i64 0, .string ⟨#[]⟩, .slice none 0 0, .int .i64 0, .int .i64 0, .int .i64 0, .string ⟨#[]⟩, .slice none 0 0], .string ⟨#[]⟩] 8 rfl (World.shaped_of_RefB (by kernel_rfl) (by kernel_rfl)) (by kernel_rfl) (by kernel_rfl) (by kernel_rfl) (znA os _))
  Tryd.zoV Tryd.zr8 (by kernel_rfl) rfl (fun ds h => ?_) (by kernel_rfl) (by kernel_rfl) (fun us h => ?_) zmr
 ·match ds, h with
  | [_, _, _, _, _], _ => rfl
 ·match us, h with
  | [a0, a1, a2, a3, a4], h =>
   obtain ⟨h0, h1, h2, h3, h4, _⟩ := h
   obtain ⟨x0, rfl⟩ := zoy h0
   obtain ⟨x1, rfl⟩ := zoi h1
   obtain ⟨r, rfl, h2r⟩ := h2.agg zqD
   obtain ⟨x2, rfl⟩ := zeH h2r
   obtain ⟨r, rfl, h3r⟩ := h3.agg zqC
   obtain ⟨x3, rfl⟩ := zqt h3r
   obtain ⟨x4, rfl⟩ := zpf h4
   exact zlD x0 x1 x2 x3 x4
theorem tells_row : Rows.EvalTellsSaid :=
 OpenClaim.holds_of_wide 7 Tryd.f7 rfl rfl rfl rfl rfl rfl rfl ⟨rfl, rfl, rfl, rfl, rfl⟩ rfl rfl rfl rfl rfl (by kernel_rfl) Tryd.func7 (by kernel_rfl)
  (of_decide_eq_true (by kernel_rfl)) (by unfold Func.isWrapper; first | (rw [if_pos (by decide +kernel)]; kernel_rfl) | (rw [if_neg (by decide +kernel)]; exact ⟨rfl, rfl⟩))
  (fun os started H enc _ => zig os started H enc)
theorem tells_holds : Rows.EvalTellsCardSaid :=
 Claim7.holds_tied_plain_at .later [] [.data] true (true, "836c78b0d37ce726ae33926cfee1b994c632ea9fd56a9a1f56cf46848f183d57") true
  tells_row (fun _ h => by cases h) (by kernel_rfl) (fun _ h => by cases h) evalTells_row_tie rfl ⟨rfl, rfl⟩ (by kernel_rfl) rfl
  (fun f fn hf hfn => by
    obtain rfl : f = 7 := Option.some.inj ((show Tryd.prog.funcNamed "stokvel/stokvellaw17.EvalTells" = some 7 by kernel_rfl).symm.trans hf) |>.symm
    obtain rfl : fn = Tryd.f7 := (Option.some.inj (Tryd.func7.symm.trans hfn)).symm
    exact ⟨by kernel_rfl, fun j t ht => by
     have hm : t ∈ Tryd.f7.params.toList := by simpa using Array.mem_of_getElem? ht
     have hall : (Tryd.f7.params.toList.all fun u => !Tryd.prog.wantsStandIn u) = true := by kernel_rfl
     exact (show Tryd.prog.wantsStandIn t = false by simpa using List.all_eq_true.1 hall t hm)⟩)
  (by kernel_rfl)
end Go.Proofs.YtfcopibncpkdoaaDoor
