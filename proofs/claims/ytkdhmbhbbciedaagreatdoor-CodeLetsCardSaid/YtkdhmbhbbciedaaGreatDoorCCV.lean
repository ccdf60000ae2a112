import Derived.Test.YtkdhmbhbbciedaaGreatDoorL7
import Derived.Test.YtkdhmbhbbciedaaGreatDoorCCU
set_option linter.all false
set_option maxRecDepth 100000
set_option maxHeartbeats 8000000
set_option linter.all false
namespace Go.Proofs.YtkdhmbhbbciedaaGreatDoor
open Go Go.VL Go.ChangeShapes Go.WideShapes Go.ChangeAt Go.RowKit
theorem zk4 (os : Os) (started : os.Started) (H : Type) (enc : TypeId × Value -> H) :
  ReturnsInHanded {} Tryz.checked os 6 .any (fun w args => (Rows.codeLetsSpec.pre enc Tryz.prog Tryz.f6 [] false w args /\ laidMetH Tryz.prog zlJ w) /\ sizedMet enc Tryz.prog Tryz.f6 (OpenSpec.ofChange Rows.codeLetsSpec) false w args)
   (Rows.codeLetsSpec.post enc Tryz.prog Tryz.f6 false true false false) := by
 refine zo1 (t0 := 22) (e0 := 39) (ts0 := [25, 39]) (C := Tryz.checked) (laid := zlJ) (tb := 4) Tryz.own started (by kernel_rfl) Tryz.func6
  (ChangeSpec.witness_shaped (enc := enc) (C := Tryz.checked) (os := os) (X := fun w _ => laidMetH Tryz.prog zlJ w) false (World.laidAll Tryz.prog os zlJ) #[.slice none 0 0, .agg #[.int .i64 0, .int .i64 0, .int .i64 0, .string ⟨#[]⟩, .slice none 0 0], .agg #[.string ⟨#[]⟩, .int .i64 0, .int .i64 0, .int .i64 0, .string ⟨#[]⟩, .slice none 0 0]] 8 (World.laidAll_os _ _ _) (World.shaped_of_ZipB (by kernel_rfl) (by kernel_rfl)) (by kernel_rfl) (by kernel_rfl) (by kernel_rfl) (zqG os _))
  Tryz.zs6 Tryz.zyl (by kernel_rfl) rfl (fun ds h => ?_) (by kernel_rfl) (by kernel_rfl) rfl (by kernel_rfl) (fun us h hb => ?_) zpa
 ·match ds, h with
  | [_, _, _], _ => rfl
 ·match us, h, hb with
  | [a0, a1, a2], h, hb =>
   obtain ⟨h0, h1, h2, _⟩ := h;obtain ⟨x0, rfl⟩ := zsm h0;obtain ⟨r, rfl, h1r⟩ := h1.agg zuW;obtain ⟨x1, rfl⟩ := zph h1r;obtain ⟨r, rfl, h2r⟩ := h2.agg zuV;obtain ⟨x2, rfl, _⟩ := zrR h2r;exact zpp x0 x1 x2 (by have hb2 := hb _ _ rfl; rw [show Tryz.checked.prog.bytesOf 39 = 80 by kernel_rfl] at hb2; simpa [reachBytes] using hb2)
theorem clets_row : Rows.CodeLetsSaid :=
 OpenClaim.holds_of_wide 6 Tryz.f6 rfl rfl rfl rfl rfl rfl rfl ⟨rfl, rfl, rfl, rfl, rfl⟩ rfl rfl rfl rfl rfl (by kernel_rfl) Tryz.func6 zlU
  (of_decide_eq_true (by kernel_rfl)) (by unfold Func.isWrapper; first | (rw [if_pos (by decide +kernel)]; kernel_rfl) | (rw [if_neg (by decide +kernel)]; exact ⟨rfl, rfl⟩))
  (fun os started H enc _ => zk4 os started H enc)
theorem clets_holds : Rows.CodeLetsCardSaid :=
 Claim7.holds_tied_plain_at .later [] [.data, .data, .data, .data, .sentinel, .sentinel, .data, .widerDeep, .pinned] true (true, "32e23c3c96515b05d2499ef60ae4cad8eab43760e4df2621cc58520ce055828e") true
  clets_row (fun _ h => by cases h) (by kernel_rfl) (fun _ h => by cases h) codeLets_row_tie rfl ⟨rfl, rfl⟩ (by kernel_rfl) rfl
  (fun f fn hf hfn => by
    obtain rfl : f = 6 := Option.some.inj ((show Tryz.prog.funcNamed "stokvel/stokvellaw19.CodeLets" = some 6 by kernel_rfl).symm.trans hf) |>.symm
    obtain rfl : fn = Tryz.f6 := (Option.some.inj (Tryz.func6.symm.trans hfn)).symm;exact ⟨by kernel_rfl, fun j t ht => by
     have hm : t ∈ Tryz.f6.params.toList := by simpa using Array.mem_of_getElem? ht
     have hall : (Tryz.f6.params.toList.all fun u => !Tryz.prog.wantsStandIn u) = true := by kernel_rfl
     exact (show Tryz.prog.wantsStandIn t = false by simpa using List.all_eq_true.1 hall t hm)⟩)
  (by kernel_rfl)
end Go.Proofs.YtkdhmbhbbciedaaGreatDoor
