import Derived.Test.YtkdhmbhbbciedaaGreatDoorO7
import Derived.Test.YtkdhmbhbbciedaaGreatDoorCCJ
set_option linter.all false
set_option maxRecDepth 100000
set_option maxHeartbeats 8000000
set_option linter.all false
namespace Go.Proofs.YtkdhmbhbbciedaaGreatDoor
open Go Go.VL Go.ChangeShapes Go.WideShapes Go.ChangeAt Go.RowKit
theorem zuF {u : U} (h : ArgU Tryz.prog 5 u) : ∃ n, u = .int .u8 n /\ 0 <= n /\ n <= 255 := by
 obtain ⟨n, h1, h2, h3⟩ := (h.one (by simp) (by simp)).of_int io5;exact ⟨n, by simpa using h1, h2, h3⟩
theorem zj1 (os : Os) (started : os.Started) (H : Type) (enc : TypeId × Value -> H) :
  ReturnsInHanded {} Tryz.checked os 7 .any (fun w args => (Rows.codePartsSpec.pre enc Tryz.prog Tryz.f7 [] false w args /\ laidMetH Tryz.prog zl2 w) /\ sizedMet enc Tryz.prog Tryz.f7 (OpenSpec.ofChange Rows.codePartsSpec) false w args)
   (Rows.codePartsSpec.post enc Tryz.prog Tryz.f7 false true false false) := by
 refine zqY (C := Tryz.checked) (laid := zl2) (tb := 4) Tryz.own started (by kernel_rfl) Tryz.func7
  (ChangeSpec.witness_shaped (enc := enc) (C := Tryz.checked) (os := os) (X := fun w _ => laidMetH Tryz.prog zl2 w) false (World.laidAll Tryz.prog os zl2) #[.slice none 0 0, .agg #[.int .i64 0, .int .i64 0, .int .i64 0, .string ⟨#[]⟩, .slice none 0 0], .agg #[.int .i64 0, .int .i64 0, .int .i64 0, .string ⟨#[]⟩, .slice none 0 0], .int .u8 0] 8 (World.laidAll_os _ _ _) (World.shaped_of_ZipB (by kernel_rfl) (by kernel_rfl)) (by kernel_rfl) (by kernel_rfl) (by kernel_rfl) (zqZ os _))
  Tryz.ztq Tryz.zzL (by kernel_rfl) rfl (fun ds h => ?_) (by kernel_rfl) (by kernel_rfl) (fun us h => ?_) zpw
 ·match ds, h with
  | [_, _, _, _], _ => rfl
 ·match us, h with
  | [a0, a1, a2, a3], h =>
   obtain ⟨h0, h1, h2, h3, _⟩ := h;obtain ⟨x0, rfl⟩ := zsE h0;obtain ⟨r, rfl, h1r⟩ := h1.agg zuH;obtain ⟨x1, rfl⟩ := zma h1r;obtain ⟨r, rfl, h2r⟩ := h2.agg zuH;obtain ⟨x2, rfl⟩ := zma h2r;obtain ⟨x3, rfl, x30, x31⟩ := zuF h3;exact zn7 x0 x1 x2 x3 x30 x31
theorem cparts_row : Rows.CodePartsSaid :=
 OpenClaim.holds_of_wide 7 Tryz.f7 rfl rfl rfl rfl rfl rfl rfl ⟨rfl, rfl, rfl, rfl, rfl⟩ rfl rfl rfl rfl rfl (by kernel_rfl) Tryz.func7 zlj
  (of_decide_eq_true (by kernel_rfl)) (by unfold Func.isWrapper; first | (rw [if_pos (by decide +kernel)]; kernel_rfl) | (rw [if_neg (by decide +kernel)]; exact ⟨rfl, rfl⟩))
  (fun os started H enc _ => zj1 os started H enc)
theorem cparts_holds : Rows.CodePartsCardSaid :=
 Claim7.holds_tied_plain_at .later [] [.data, .data, .data, .data, .sentinel, .sentinel, .data, .widerDeep, .pinned] true (true, "32e23c3c96515b05d2499ef60ae4cad8eab43760e4df2621cc58520ce055828e") true
  cparts_row (fun _ h => by cases h) (by kernel_rfl) (fun _ h => by cases h) codeParts_row_tie rfl ⟨rfl, rfl⟩ (by kernel_rfl) rfl
  (fun f fn hf hfn => by
    obtain rfl : f = 7 := Option.some.inj ((show Tryz.prog.funcNamed "stokvel/stokvellaw19.CodeParts" = some 7 by kernel_rfl).symm.trans hf) |>.symm
    obtain rfl : fn = Tryz.f7 := (Option.some.inj (Tryz.func7.symm.trans hfn)).symm;exact ⟨by kernel_rfl, fun j t ht => by
     have hm : t ∈ Tryz.f7.params.toList := by simpa using Array.mem_of_getElem? ht
     have hall : (Tryz.f7.params.toList.all fun u => !Tryz.prog.wantsStandIn u) = true := by kernel_rfl
     exact (show Tryz.prog.wantsStandIn t = false by simpa using List.all_eq_true.1 hall t hm)⟩)
  (by kernel_rfl)
end Go.Proofs.YtkdhmbhbbciedaaGreatDoor
