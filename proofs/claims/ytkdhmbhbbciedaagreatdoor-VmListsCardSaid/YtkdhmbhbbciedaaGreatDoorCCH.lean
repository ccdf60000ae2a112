/- Layer 20: VmLists: the tied card (to be built only beside globs without lex.signs: the row does not list it). -/
import Derived.Test.YtkdhmbhbbciedaaGreatDoorM6
import Derived.Test.YtkdhmbhbbciedaaGreatDoorCCI
set_option linter.all false
set_option maxRecDepth 100000
set_option maxHeartbeats 8000000
set_option linter.all false
namespace Go.Proofs.YtkdhmbhbbciedaaGreatDoor
open Go Go.VL Go.ChangeShapes Go.WideShapes Go.ChangeAt Go.RowKit
theorem laid_metV (os : Os) (args : Array Value) : laidMetH Tryz.prog laidV ((World.laidAll Tryz.prog os laidV).forCall (fun _ _ => 0) ⟨#[], args, []⟩).memory := by
 rw [MakeChecks.laidMetH_plain _ _ _ (by kernel_rfl)]
 exact laidMet_laidAll _ (by kernel_rfl) (by kernel_rfl)
theorem glob_laidV (W : World) (h : laidMetH Tryz.prog laidV W) : GlobIn (wmem W) := by
 rw [MakeChecks.laidMetH_plain _ _ _ (by kernel_rfl)] at h
 obtain ⟨ps, ⟨g0, t0, c0, f0, p0, q0, hg0, ht0, hv0, hd0, ⟨g1, t1, c1, f1, p1, q1, hg1, ht1, hv1, hd1, ⟨g2, t2, c2, f2, p2, q2, hg2, ht2, hv2, hd2, ⟨g3, t3, c3, f3, p3, q3, hg3, ht3, hv3, hd3, ⟨g4, t4, c4, f4, p4, q4, hg4, ht4, hv4, hd4, ⟨g5, t5, c5, f5, p5, q5, hg5, ht5, hv5, hd5, ⟨g6, t6, c6, f6, p6, q6, hg6, ht6, hv6, hd6, ⟨g7, t7, c7, f7, p7, q7, hg7, ht7, hv7, hd7, _⟩, _⟩, _⟩, _⟩, _⟩, _⟩, _⟩, _⟩, _⟩ := h
 obtain rfl : g2 = 9 := Option.some.inj (hg2.symm.trans (by kernel_rfl))
 obtain rfl : g4 = 3 := Option.some.inj (hg4.symm.trans (by kernel_rfl))
 obtain rfl : g5 = 2 := Option.some.inj (hg5.symm.trans (by kernel_rfl))
 obtain rfl : g6 = 0 := Option.some.inj (hg6.symm.trans (by kernel_rfl))
 obtain rfl : t2 = 227 := Option.some.inj (ht2.symm.trans (by kernel_rfl))
 obtain rfl : t6 = 76 := Option.some.inj (ht6.symm.trans (by kernel_rfl))
 obtain rfl : t4 = 78 := Option.some.inj (ht4.symm.trans (by kernel_rfl))
 obtain rfl : t5 = 78 := Option.some.inj (ht5.symm.trans (by kernel_rfl))
 have e2 := Lib.cells_of_tab (p := p2) (n := 20) (e := 191) (k := .u64) (zs := pow10A) (by kernel_rfl) (by kernel_rfl) (by kernel_rfl) (by kernel_rfl) (hd2.trans (by kernel_rfl))
 have e6 := strs_at (q := p6) (L := wordsA) hg6 hv6 (by kernel_rfl) (e := 9) (by kernel_rfl) (by kernel_rfl) (by kernel_rfl) (hd6.trans (by kernel_rfl))
 obtain ⟨ms4, hm4⟩ : ∃ ms, Tryz.prog.underlying 78 = some (.interface ms) := ⟨_, rfl⟩
 obtain ⟨u4, v4, e4⟩ := iface_at hm4 hd4
 obtain ⟨u5, v5, e5⟩ := iface_at hm4 hd5
 have x2 := glob_at hg2 hv2
 have x4 := glob_at hg4 hv4
 have x5 := glob_at hg5 hv5
 have x6 := glob_at hg6 hv6
 rw [e2] at x2
 rw [e4] at x4
 rw [e5] at x5
 rw [e6] at x6
 refine ⟨fun p hp => ?_, fun g hg => ?_⟩
 ·unfold globs at hp
  simp only [List.mem_cons, List.not_mem_nil, or_false] at hp
  rcases hp with rfl | rfl
  all_goals first | exact x2 | exact x6
 ·unfold ifgs at hg
  simp only [List.mem_cons, List.not_mem_nil, or_false] at hg
  rcases hg with rfl | rfl
  all_goals first | exact ⟨_, _, x4.1 0 (by simp)⟩ | exact ⟨_, _, x5.1 0 (by simp)⟩
theorem vlists_row : Rows.VmListsSaid :=
 OpenClaim.holds_of_wide 8 Tryz.f8 rfl rfl rfl rfl rfl rfl rfl ⟨rfl, rfl, rfl, rfl, rfl⟩ rfl rfl rfl rfl rfl (by kernel_rfl) Tryz.func8 vlists_facts
  (of_decide_eq_true (by kernel_rfl)) (by unfold Func.isWrapper; first | (rw [if_pos (by decide +kernel)]; kernel_rfl) | (rw [if_neg (by decide +kernel)]; exact ⟨rfl, rfl⟩))
  (fun os started H enc _ => vlists_lifted glob_laidV laid_metV os started H enc)
theorem vlists_holds : Rows.VmListsCardSaid :=
 Claim7.holds_tied_plain_at .later [] [.data, .data, .data, .data, .sentinel, .sentinel, .widerDeep, .pinned] true (true, "32e23c3c96515b05d2499ef60ae4cad8eab43760e4df2621cc58520ce055828e") true
  vlists_row (fun _ h => by cases h) (by kernel_rfl) (fun _ h => by cases h) vmLists_row_tie rfl ⟨rfl, rfl⟩ (by kernel_rfl) rfl
  (fun f fn hf hfn => by
    obtain rfl : f = 8 := Option.some.inj ((show Tryz.prog.funcNamed "stokvel/stokvellaw20.VmLists" = some 8 by kernel_rfl).symm.trans hf) |>.symm
    obtain rfl : fn = Tryz.f8 := (Option.some.inj (Tryz.func8.symm.trans hfn)).symm
    exact ⟨by kernel_rfl, fun j t ht => by
     have hm : t ∈ Tryz.f8.params.toList := by simpa using Array.mem_of_getElem? ht
     have hall : (Tryz.f8.params.toList.all fun u => !Tryz.prog.wantsStandIn u) = true := by kernel_rfl
     exact (show Tryz.prog.wantsStandIn t = false by simpa using List.all_eq_true.1 hall t hm)⟩)
  (by kernel_rfl)
end Go.Proofs.YtkdhmbhbbciedaaGreatDoor
