/- Syntax: without a pair of parentheses that belongs to no min or max the text does not say the same expression (SyntaxParentheses): the tied card. -/
import Derived.Test.YthnemhfamhnfjaaGreatDoorK7
import Derived.Test.YthnemhfamhnfjaaGreatDoorCLy
set_option linter.all false
set_option maxRecDepth 100000
set_option maxHeartbeats 8000000
set_option linter.all false
namespace Go.Proofs.YthnemhfamhnfjaaGreatDoor
open Go Go.VL Go.ChangeShapes Go.WideShapes Go.ChangeAt Go.RowKit
theorem zia (os : Os) (started : os.Started) (H : Type) (enc : TypeId × Value → H) :
  ReturnsInHanded {} Tryz.checked os 8 .any (fun w args => (Rows.syntaxParenthesesSpec.pre enc Tryz.prog Tryz.f8 [] false w args ∧ laidMetH Tryz.prog znz w) ∧ sizedMet enc Tryz.prog Tryz.f8 (OpenSpec.ofChange Rows.syntaxParenthesesSpec) false w args)
   (Rows.syntaxParenthesesSpec.post enc Tryz.prog Tryz.f8 false true false false) := by
 refine zoL (C := Tryz.checked) (laid := znz) (tb := 4) Tryz.own started (by kernel_rfl) Tryz.func8
  (ChangeSpec.witness_shaped (enc := enc) (C := Tryz.checked) (os := os) (X := fun w _ => laidMetH Tryz.prog znz w) false (World.doorLaid Tryz.prog 400 os) #[.agg #[.int .i64 0, .int .i64 0, .int .i64 0, .string ⟨#[]⟩, .slice none 0 0], .int .i64 0] 8 rfl (World.shaped_of_RefB (by kernel_rfl) (by kernel_rfl)) (by kernel_rfl) (by kernel_rfl) (by kernel_rfl) (zoV os _))
  Tryz.zp9 Tryz.zs2 (by kernel_rfl) rfl (fun ds h => ?_) (by kernel_rfl) (by kernel_rfl) (fun us h => ?_) znK
 ·match ds, h with
  | [_, _], _ => rfl
 ·match us, h with
  | [a0, a1], h =>
   obtain ⟨h0, h1, _⟩ := h
   obtain ⟨r, rfl, h0r⟩ := h0.agg zrH
   obtain ⟨x0, rfl⟩ := zfa h0r
   obtain ⟨x1, rfl⟩ := zqD h1
   have h := zlU x0 x1
   rw [Exp.row_eq] at h
   exact h
theorem parens_row : Rows.SyntaxParenthesesSaid :=
 OpenClaim.holds_of_wide 8 Tryz.f8 rfl rfl rfl rfl rfl rfl rfl ⟨rfl, rfl, rfl, rfl, rfl⟩ rfl rfl rfl rfl rfl (by kernel_rfl) Tryz.func8 (by kernel_rfl)
  (of_decide_eq_true (by kernel_rfl)) (by unfold Func.isWrapper; first | (rw [if_pos (by decide +kernel)]; kernel_rfl) | (rw [if_neg (by decide +kernel)]; exact ⟨rfl, rfl⟩))
  (fun os started H enc _ => zia os started H enc)
theorem parens_holds : Rows.SyntaxParenthesesCardSaid :=
 Claim7.holds_tied_plain_at .later [] [.data, .data, .data, .data] true (true, "c04b2ee704424c70beb65cd5ce32dac8ef7fe7043d4747e1bb58507771a90867") true
  parens_row (fun _ h => by cases h) (by kernel_rfl) (fun _ h => by cases h) syntaxParentheses_row_tie rfl ⟨rfl, rfl⟩ (by kernel_rfl) rfl
  (fun f fn hf hfn => by
    obtain rfl : f = 8 := Option.some.inj ((show Tryz.prog.funcNamed "stokvel/stokvellaw15.SyntaxParentheses" = some 8 by kernel_rfl).symm.trans hf) |>.symm
    obtain rfl : fn = Tryz.f8 := (Option.some.inj (Tryz.func8.symm.trans hfn)).symm
    exact ⟨by kernel_rfl, fun j t ht => by
     have hm : t ∈ Tryz.f8.params.toList := by simpa using Array.mem_of_getElem? ht
     have hall : (Tryz.f8.params.toList.all fun u => !Tryz.prog.wantsStandIn u) = true := by kernel_rfl
     exact (show Tryz.prog.wantsStandIn t = false by simpa using List.all_eq_true.1 hall t hm)⟩)
  (by kernel_rfl)
end Go.Proofs.YthnemhfamhnfjaaGreatDoor
