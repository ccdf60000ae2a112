import Derived.Test.YthnemhfamhnfjaaGreatDoorJ8
set_option linter.all false
set_option maxRecDepth 100000
set_option maxHeartbeats 8000000
namespace Go.Proofs.YthnemhfamhnfjaaGreatDoor
open Go Go.VL Go.ChangeShapes Go.WideShapes Go.ChangeAt Go.RowKit
theorem Tryz.own : ownKnob Tryz.prog.godebug = none := by kernel_rfl
theorem Tryz.zrB : laidOutB Tryz.prog = true := by kernel_rfl
theorem Tryz.zuF : zh2 Tryz.prog = true := by kernel_rfl
theorem zrW {u : U} (h : ArgU Tryz.prog 9 u) : ∃ n, u = .str n := by
 obtain ⟨n, h1, _⟩ := (h.one (by first | simp | kernel_rfl) (by first | simp | kernel_rfl)).of_str (by first | simp | kernel_rfl);exact ⟨n, by simpa using h1⟩
end Go.Proofs.YthnemhfamhnfjaaGreatDoor
