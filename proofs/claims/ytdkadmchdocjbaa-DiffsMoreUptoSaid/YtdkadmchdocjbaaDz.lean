/- Layer 13: the examples: the walk. -/
import Derived.Test.YtdkadmchdocjbaaDw
import Derived.Test.YtdkadmchdocjbaaDA
set_option linter.all false
set_option maxRecDepth 100000
set_option maxHeartbeats 8000000
set_option linter.all false
namespace Go.Proofs.Ytdkadmchdocjbaa
open Go Go.VL
attribute [local simp] hcons hstep evPure opd uOf putOK St.put St.at getK binD binI binS binB nilD aggD eqUs cmpK lookD lookR rangeD Go.VL.nextD entryD keyD valU keyU lookK mkV entD_nil lookK_entD updK_entD1 updK_entD2 updK_entD3 allUE allUE_entD makeMapD mapUpdD mapEff updK valM Key.kk shiftI arith unD convD pickD loadD cellsAt fieldAddrD fieldD indexAddrD indexD sliceD cutD lenD minmaxD nilCheckD buildD fillD cellsD isOne ones setAll mkAgg allU allocD boxD storeD St.add buildSliceD appendD rowsOf makeD setOb getK_setOb getK_del getK_cons stripL strip guardTmp entry chunks zcells valD argsV argsW argW argU1 argU0 argsU0 argsU1 calleeOf scalarD scalarU delAll effD St.effS RK_seq RK_seq_ret RK_seq_exit RK_blk RK_blk_ret RK_blk_exit RK_loop RK_loop_ret RK_loop_exit RK_done vs_seq vs_block vs_skip vs_label vs_exit vs_ret vs_cond vs_region vs_loop vs_draw vs_range vs_scope applyW mkD rdIds lentIds callOf calleeOf freeOp D.ids Op.operands Call.operands isEffOp makeIfD typeAssertD conc concs conc1 uOfV panicD IntKind.bits allU2 allU2_append List.take_of_length_le List.range_succ
attribute [local irreducible] V G H HD HD2 RunK Eff CallP CallV EndOK Fun Ret FinOK LoopI LoopW EndW
theorem small_fun : Fun Try.prog 7 [] (· = .u (.bool true)) := by
  obtain ⟨V, s1, h1⟩ := solve_vec exA 3 (by decide) exA_right exF exA_f
  obtain ⟨rfl, _, _⟩ := exA_solve s1
  obtain ⟨M, C2, s2, h2⟩ := most_vec exA 3 2 0 (by decide) (by decide) exF exA_f fun M C E h => by
    obtain ⟨rfl, rfl, rfl⟩ := exA_most h
    exact ⟨rfl, by simp⟩
  obtain ⟨rfl, rfl, _⟩ := exA_most s2
  obtain ⟨M, C3, E, s3, h3⟩ := most_ex exA 3 0 2 (by decide)
  obtain ⟨rfl, rfl, rfl⟩ := exA_none s3
  obtain ⟨V, C, E, s4, h4⟩ := solve_ex exB 3 (by decide)
  obtain ⟨rfl, rfl, hC⟩ := exB_solve s4
  have hlen := exB_len hC
  have h5 := refute_fun exB 3 C
  rw [hC.refute exB_right] at h5
  have h6 := refute_fun exA 3 [0, 1]
  rw [show refuteB exA 3 [0, 1] = false by decide] at h6
  have h7 := check_fun exA 3 [5, 2, 3]
  rw [show checkB exA 3 [5, 2, 3] = true by decide] at h7
  have h8 := rsame_fun [0, -3, -2] [0, -3, -2] (by decide)
  have h9 := rsame_fun [0, 1] [0, 1] (by decide)
  simp only [exA, exB, consU, ints, List.map_cons, List.map_nil, decide_true] at h1 h2 h3 h4 h5 h6 h7 h8 h9
  have hlm : (C.map fun n => [U.int .i64 n]).length = 3 := by simp [hlen]
  generalize (C.map fun n => [U.int .i64 n]) = c at h4 h5 hlm
  (refine Fun.of_body Try.func7 rfl (by simp) fun Γ hn => ?_); simp only [entry, List.zipIdx_cons, List.zipIdx_nil, List.map_cons, List.map_nil, Nat.zero_add, Try.ntmps7]
  simp only [List.length_cons, List.length_nil] at h1 h2
  repeat' (first
    | (refine H_cons ?_; simp)
    | (refine H_nil ?_; simp)
    | (refine V_sseq ?_; simp)
    | fail)
  refine CallP.funV h1 (by first | rfl | fail) (by first | assumption | (simp; done) | fail) (by first | (simp; done) | (simp; rfl) | fail) (by simp) (by simp [getK, scOb, intR, scalarD, scalarU]) ?_
  simp [shD, scalarU]
  repeat' (first
    | (refine H_cons ?_; simp)
    | (refine H_nil ?_; simp)
    | (refine V_sseq ?_; simp)
    | fail)
  refine CallP.funV h2 (by first | rfl | fail) (by first | assumption | (simp; done) | fail) (by first | (simp; done) | (simp; rfl) | fail) (by simp) (by simp [getK, scOb, intR, scalarD, scalarU]) ?_
  simp [shD, scalarU]
  repeat' (first
    | (refine H_appendK ?_; simp [appendKD, St.frz, St.frzS, frzS, fv, fzVec, frzObS, del])
    | (refine H_cons ?_; simp)
    | (refine H_nil ?_; simp)
    | (refine V_sseq ?_; simp)
    | (refine CallP.funM (h3) (by first | rfl | fail) (by first | assumption | (simp; done) | fail) (by first | (simp; done) | (simp; rfl) | fail) (by first | (simp; done) | fail) (fun d hd => ?_); subst hd; (try simp [maskD, scalarU]))
    | fail)
  repeat' (first
    | (refine H_cons ?_; simp [hlm])
    | (refine H_nil ?_; simp [hlm])
    | (refine V_sseq ?_; simp [hlm])
    | (refine V_ret ?_; simp only [RK_seq, RK_seq_ret, RK_seq_exit, RK_blk, RK_blk_ret, RK_blk_exit, RK_loop, RK_loop_ret, RK_loop_exit, RK_done])
    | (refine CallP.fun_ (h4) (by first | rfl | fail) (by first | assumption | (simp; done) | fail) (by first | (simp [hlm]; done) | (simp [hlm]; rfl) | fail) (by first | (simp; done) | fail) (fun d hd => ?_); subst hd; (try simp [hlm]))
    | (refine CallP.fun_ (h5) (by first | rfl | fail) (by first | assumption | (simp; done) | fail) (by first | (simp [hlm]; done) | (simp [hlm]; rfl) | fail) (by first | (simp; done) | fail) (fun d hd => ?_); subst hd; (try simp [hlm]))
    | (refine CallP.fun_ (h6) (by first | rfl | fail) (by first | assumption | (simp; done) | fail) (by first | (simp [hlm]; done) | (simp [hlm]; rfl) | fail) (by first | (simp; done) | fail) (fun d hd => ?_); subst hd; (try simp [hlm]))
    | (refine CallP.fun_ (h7) (by first | rfl | fail) (by first | assumption | (simp; done) | fail) (by first | (simp [hlm]; done) | (simp [hlm]; rfl) | fail) (by first | (simp; done) | fail) (fun d hd => ?_); subst hd; (try simp [hlm]))
    | (refine CallP.fun_ (h8) (by first | rfl | fail) (by first | assumption | (simp; done) | fail) (by first | (simp [hlm]; done) | (simp [hlm]; rfl) | fail) (by first | (simp; done) | fail) (fun d hd => ?_); subst hd; (try simp [hlm]))
    | (refine CallP.fun_ (h9) (by first | rfl | fail) (by first | assumption | (simp; done) | fail) (by first | (simp [hlm]; done) | (simp [hlm]; rfl) | fail) (by first | (simp; done) | fail) (fun d hd => ?_); subst hd; (try simp [hlm]))
    | fail)
  all_goals
    (refine EndOK.val (.inr rfl) ?_; simp [resD, oneOrTup, pureD, Try.results7])
end Go.Proofs.Ytdkadmchdocjbaa
