import Derived.Test.YtkdhmbhbbciedaaGreatDoorT7
import Derived.Test.YtkdhmbhbbciedaaGreatDoorCCAh
set_option linter.all false
set_option maxRecDepth 100000
set_option maxHeartbeats 8000000
set_option linter.all false
namespace Go.Proofs.YtkdhmbhbbciedaaGreatDoor
open Go Go.VL Go.ChangeShapes Go.WideShapes Go.ChangeAt Go.RowKit
theorem zjR (os : Os) (started : os.Started) (H : Type) (enc : TypeId × Value -> H) :
  ReturnsInHanded {} Tryz.checked os 3 .any (fun w args => (Rows.codeTellsSpec.pre enc Tryz.prog Tryz.f3 [] false w args /\ laidMetH Tryz.prog zl5 w) /\ sizedMet enc Tryz.prog Tryz.f3 (OpenSpec.ofChange Rows.codeTellsSpec) false w args)
   (Rows.codeTellsSpec.post enc Tryz.prog Tryz.f3 false true false false) := by
 refine zro (C := Tryz.checked) (laid := zl5) (tb := 4) Tryz.own started (by kernel_rfl) Tryz.func3
  (ChangeSpec.witness_shaped (enc := enc) (C := Tryz.checked) (os := os) (X := fun w _ => laidMetH Tryz.prog zl5 w) false (World.laidAll Tryz.prog os zl5) #[.slice none 0 0, .agg #[.int .i64 0, .int .i64 0, .int .i64 0, .string ⟨#[]⟩, .slice none 0 0], .slice none 0 0, .string ⟨#[]⟩] 8 (World.laidAll_os _ _ _) (World.shaped_of_ZipB (by kernel_rfl) (by kernel_rfl)) (by kernel_rfl) (by kernel_rfl) (by kernel_rfl) (zrq os _))
  Tryz.ztN Tryz.zyx (by kernel_rfl) rfl (fun ds h => ?_) (by kernel_rfl) (by kernel_rfl) (fun us h => ?_) zpT
 ·match ds, h with
  | [_, _, _, _], _ => rfl
 ·match us, h with
  | [a0, a1, a2, a3], h =>
   obtain ⟨h0, h1, h2, h3, _⟩ := h;obtain ⟨x0, rfl⟩ := zs6 h0;obtain ⟨r, rfl, h1r⟩ := h1.agg zvF;obtain ⟨x1, rfl⟩ := zpY h1r;obtain ⟨x2, rfl⟩ := zs9 h2;obtain ⟨x3, rfl⟩ := zt9 h3;exact zok x0 x1 x2 x3
theorem ctells_row : Rows.CodeTellsSaid :=
 OpenClaim.holds_of_wide 3 Tryz.f3 rfl rfl rfl rfl rfl rfl rfl ⟨rfl, rfl, rfl, rfl, rfl⟩ rfl rfl rfl rfl rfl (by kernel_rfl) Tryz.func3 zlk
  (of_decide_eq_true (by kernel_rfl)) (by unfold Func.isWrapper; first | (rw [if_pos (by decide +kernel)]; kernel_rfl) | (rw [if_neg (by decide +kernel)]; exact ⟨rfl, rfl⟩))
  (fun os started H enc _ => zjR os started H enc)
theorem ctells_holds : Rows.CodeTellsCardSaid :=
 Claim7.holds_tied_plain_at .later [] [.data, .data, .data, .data, .sentinel, .sentinel, .data, .widerDeep, .pinned] true (true, "32e23c3c96515b05d2499ef60ae4cad8eab43760e4df2621cc58520ce055828e") true
  ctells_row (fun _ h => by cases h) (by kernel_rfl) (fun _ h => by cases h) codeTells_row_tie rfl ⟨rfl, rfl⟩ (by kernel_rfl) rfl
  (fun f fn hf hfn => by
    obtain rfl : f = 3 := Option.some.inj ((show Tryz.prog.funcNamed "stokvel/stokvellaw19.CodeTells" = some 3 by kernel_rfl).symm.trans hf) |>.symm
    obtain rfl : fn = Tryz.f3 := (Option.some.inj (Tryz.func3.symm.trans hfn)).symm;exact ⟨by kernel_rfl, fun j t ht => by
     have hm : t ∈ Tryz.f3.params.toList := by simpa using Array.mem_of_getElem? ht
     have hall : (Tryz.f3.params.toList.all fun u => !Tryz.prog.wantsStandIn u) = true := by kernel_rfl
     exact (show Tryz.prog.wantsStandIn t = false by simpa using List.all_eq_true.1 hall t hm)⟩)
  (by kernel_rfl)
end Go.Proofs.YtkdhmbhbbciedaaGreatDoor
