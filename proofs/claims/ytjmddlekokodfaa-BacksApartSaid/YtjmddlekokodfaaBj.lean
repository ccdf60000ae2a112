/- Layer 26: the small examples, and the first law: the walks. -/
import Derived.Test.YtjmddlekokodfaaBi
set_option linter.all false
set_option maxRecDepth 100000
set_option maxHeartbeats 8000000
set_option linter.all false
namespace Go.Proofs.Ytjmddlekokodfaa
open Go Go.VL
theorem moveD_ok {debts : List Int} {B : List (List Int)} {means : List Int} {p : List (List Int)} {l : List Int} (h1 : rightB debts B means = true) (h2 : moveP debts B means = p) (h3 : moveL debts B means = l) : moveD debts B means = .tup [.u (lists p), .u (ints l), .u (.int .i64 0)] := by
  rw [moveD, if_pos h1, h2, h3]
theorem small1 : moveD [10, 0, 0, 0] [[1, 2], [3], [], []] [0, 3, 4, 9] = .tup [.u (lists [[0, 0, 0, 0], [3, 0, 0, 0], [4, 0, 0, 0], [3, 0, 0, 0]]), .u (ints [0, 0, 0, 0]), .u (.int .i64 0)] :=
  moveD_ok (by decide +kernel) (by decide +kernel) (by decide +kernel)
theorem small2 : moveD [7, 0, 0] [[1, 2], [], []] [0, 9, 9] = .tup [.u (lists [[0, 0, 0], [4, 0, 0], [3, 0, 0]]), .u (ints [0, 0, 0]), .u (.int .i64 0)] :=
  moveD_ok (by decide +kernel) (by decide +kernel) (by decide +kernel)
theorem small3 : moveD [5, 6] [[1], [0]] [2, 3] = .tup [.u (lists [[0, 2], [3, 0]]), .u (ints [2, 4]), .u (.int .i64 0)] :=
  moveD_ok (by decide +kernel) (by decide +kernel) (by decide +kernel)
theorem small4 : rightB [1] [[0]] [1] = false := by decide +kernel
attribute [local simp] hcons hstep evPure opd uOf putOK St.put St.at getK binD binI binS binB nilD aggD eqUs cmpK lookD lookR rangeD nextD entryD keyD valU keyU lookK mkV entD_nil lookK_entD updK_entD1 updK_entD2 updK_entD3 allUE allUE_entD makeMapD mapUpdD mapEff updK valM Key.kk shiftI arith unD convD pickD loadD cellsAt fieldAddrD fieldD indexAddrD indexD sliceD cutD lenD minmaxD nilCheckD buildD fillD cellsD isOne ones setAll mkAgg allU allocD boxD storeD St.add buildSliceD appendD rowsOf makeD setOb getK_setOb getK_del getK_cons stripL strip guardTmp entry chunks zcells valD argsV argsW argW argU1 argU0 argsU0 argsU1 calleeOf scalarD scalarU delAll effD St.effS RK_seq RK_seq_ret RK_seq_exit RK_blk RK_blk_ret RK_blk_exit RK_loop RK_loop_ret RK_loop_exit RK_done vs_seq vs_block vs_skip vs_label vs_exit vs_ret vs_cond vs_region vs_loop vs_draw vs_range vs_scope applyW mkD rdIds lentIds callOf calleeOf freeOp D.ids Op.operands Call.operands isEffOp IntKind.bits allU2 allU2_append List.take_of_length_le List.range_succ
attribute [local irreducible] V G H HD HD2 RunK Eff CallP CallV EndOK Fun Ret FinOK LoopI LoopW EndW
theorem small_fun : Fun Try.prog 8 [] (· = .u (.bool true)) := by
  have h1 := move_fun [10, 0, 0, 0] [[1, 2], [3], [], []] [0, 3, 4, 9] (by decide) (by decide) (by decide) (by decide)
  have h2 := move_fun [7, 0, 0] [[1, 2], [], []] [0, 9, 9] (by decide) (by decide) (by decide) (by decide)
  have h3 := move_fun [5, 6] [[1], [0]] [2, 3] (by decide) (by decide) (by decide) (by decide)
  have h4 := right_fun [1] [[0]] [1] (by decide) (by decide) (by decide) (by decide)
  rw [small1] at h1
  rw [small2] at h2
  rw [small3] at h3
  rw [small4] at h4
  have h5 := sameLists_fun [[0, 0, 0, 0], [3, 0, 0, 0], [4, 0, 0, 0], [3, 0, 0, 0]] [[0, 0, 0, 0], [3, 0, 0, 0], [4, 0, 0, 0], [3, 0, 0, 0]] (by decide) (by decide)
  have h6 := sameLists_fun [[0, 0, 0], [4, 0, 0], [3, 0, 0]] [[0, 0, 0], [4, 0, 0], [3, 0, 0]] (by decide) (by decide)
  have h7 := sameLists_fun [[0, 2], [3, 0]] [[0, 2], [3, 0]] (by decide) (by decide)
  have h8 := same_fun [0, 0, 0, 0] [0, 0, 0, 0] (by decide)
  have h9 := same_fun [0, 0, 0] [0, 0, 0] (by decide)
  have h10 := same_fun [2, 4] [2, 4] (by decide)
  simp only [lists, ints, List.map_cons, List.map_nil, decide_true] at h1 h2 h3 h4 h5 h6 h7 h8 h9 h10
  (refine Fun.of_body Try.func8 rfl (by simp) fun Γ hn => ?_); simp only [entry, List.zipIdx_cons, List.zipIdx_nil, List.map_cons, List.map_nil, Nat.zero_add, Try.ntmps8]
  repeat' (first
    | (refine H_cons ?_; simp)
    | (refine H_nil ?_; simp)
    | (refine V_sseq ?_; simp)
    | fail)
  refine CallP_wk (Wk.normV _) ?_
  simp [St.normV, normVOb, normD, normU, norm1]
  refine CallP_wk (Wk.frzN 6 _) ?_
  simp [frzN, frz1, frz_env, frz_obs, St.frz, St.frzS, frzS, fv, fzVec, frzObS, frz_rowsD, del, frz, frzOb]
  repeat' (first
    | (refine H_cons ?_; simp)
    | (refine H_nil ?_; simp)
    | (refine V_sseq ?_; simp)
    | (refine CallP.fun_ (h1) (by first | rfl | fail) (by first | assumption | (simp; done) | fail) (by first | (simp; done) | (simp; rfl) | fail) (by first | (simp; done) | fail) (fun d hd => ?_); subst hd; (try simp))
    | fail)
  refine CallP_wk (Wk.normV _) ?_
  simp [St.normV, normVOb, normD, normU, norm1]
  refine CallP_wk (Wk.frzN 6 _) ?_
  simp [frzN, frz1, frz_env, frz_obs, St.frz, St.frzS, frzS, fv, fzVec, frzObS, frz_rowsD, del, frz, frzOb]
  repeat' (first
    | (refine H_cons ?_; simp)
    | (refine H_nil ?_; simp)
    | (refine V_sseq ?_; simp)
    | (refine CallP.fun_ (h2) (by first | rfl | fail) (by first | assumption | (simp; done) | fail) (by first | (simp; done) | (simp; rfl) | fail) (by first | (simp; done) | fail) (fun d hd => ?_); subst hd; (try simp))
    | fail)
  refine CallP_wk (Wk.normV _) ?_
  simp [St.normV, normVOb, normD, normU, norm1]
  refine CallP_wk (Wk.frzN 6 _) ?_
  simp [frzN, frz1, frz_env, frz_obs, St.frz, St.frzS, frzS, fv, fzVec, frzObS, frz_rowsD, del, frz, frzOb]
  repeat' (first
    | (refine H_cons ?_; simp)
    | (refine H_nil ?_; simp)
    | (refine V_sseq ?_; simp)
    | (refine CallP.fun_ (h3) (by first | rfl | fail) (by first | assumption | (simp; done) | fail) (by first | (simp; done) | (simp; rfl) | fail) (by first | (simp; done) | fail) (fun d hd => ?_); subst hd; (try simp))
    | fail)
  refine CallP_wk (Wk.normV _) ?_
  simp [St.normV, normVOb, normD, normU, norm1]
  refine CallP_wk (Wk.frzN 6 _) ?_
  simp [frzN, frz1, frz_env, frz_obs, St.frz, St.frzS, frzS, fv, fzVec, frzObS, frz_rowsD, del, frz, frzOb]
  repeat' (first
    | (refine H_cons ?_; simp)
    | (refine H_nil ?_; simp)
    | (refine V_sseq ?_; simp)
    | (refine CallP.fun_ (h5) (by first | rfl | fail) (by first | assumption | (simp; done) | fail) (by first | (simp; done) | (simp; rfl) | fail) (by first | (simp; done) | fail) (fun d hd => ?_); subst hd; (try simp))
    | (refine CallP.fun_ (h8) (by first | rfl | fail) (by first | assumption | (simp; done) | fail) (by first | (simp; done) | (simp; rfl) | fail) (by first | (simp; done) | fail) (fun d hd => ?_); subst hd; (try simp))
    | fail)
  refine CallP_wk (Wk.normV _) ?_
  simp [St.normV, normVOb, normD, normU, norm1]
  refine CallP_wk (Wk.frzN 6 _) ?_
  simp [frzN, frz1, frz_env, frz_obs, St.frz, St.frzS, frzS, fv, fzVec, frzObS, frz_rowsD, del, frz, frzOb]
  repeat' (first
    | (refine H_cons ?_; simp)
    | (refine H_nil ?_; simp)
    | (refine V_sseq ?_; simp)
    | (refine CallP.fun_ (h6) (by first | rfl | fail) (by first | assumption | (simp; done) | fail) (by first | (simp; done) | (simp; rfl) | fail) (by first | (simp; done) | fail) (fun d hd => ?_); subst hd; (try simp))
    | (refine CallP.fun_ (h9) (by first | rfl | fail) (by first | assumption | (simp; done) | fail) (by first | (simp; done) | (simp; rfl) | fail) (by first | (simp; done) | fail) (fun d hd => ?_); subst hd; (try simp))
    | fail)
  refine CallP_wk (Wk.normV _) ?_
  simp [St.normV, normVOb, normD, normU, norm1]
  refine CallP_wk (Wk.frzN 6 _) ?_
  simp [frzN, frz1, frz_env, frz_obs, St.frz, St.frzS, frzS, fv, fzVec, frzObS, frz_rowsD, del, frz, frzOb]
  repeat' (first
    | (refine H_cons ?_; simp)
    | (refine CallP.fun_ (h7) (by first | rfl | fail) (by first | assumption | (simp; done) | fail) (by first | (simp; done) | (simp; rfl) | fail) (by first | (simp; done) | fail) (fun d hd => ?_); subst hd; (try simp))
    | (refine CallP.fun_ (h10) (by first | rfl | fail) (by first | assumption | (simp; done) | fail) (by first | (simp; done) | (simp; rfl) | fail) (by first | (simp; done) | fail) (fun d hd => ?_); subst hd; (try simp))
    | fail)
  refine CallP_wk (Wk.normV _) ?_
  simp [St.normV, normVOb, normD, normU, norm1]
  refine CallP_wk (Wk.frzN 6 _) ?_
  simp [frzN, frz1, frz_env, frz_obs, St.frz, St.frzS, frzS, fv, fzVec, frzObS, frz_rowsD, del, frz, frzOb]
  repeat' (first
    | (refine H_cons ?_; simp)
    | (refine H_nil ?_; simp)
    | (refine V_ret ?_; simp only [RK_seq, RK_seq_ret, RK_seq_exit, RK_blk, RK_blk_ret, RK_blk_exit, RK_loop, RK_loop_ret, RK_loop_exit, RK_done])
    | (refine CallP.fun_ (h4) (by first | rfl | fail) (by first | assumption | (simp; done) | fail) (by first | (simp; done) | (simp; rfl) | fail) (by first | (simp; done) | fail) (fun d hd => ?_); subst hd; (try simp))
    | fail)
  all_goals
    (refine EndOK.val (.inr rfl) ?_; simp [resD, oneOrTup, pureD, Try.results8])
theorem fewB_out {debts : List Int} {B : List (List Int)} {means : List Int} {n : Nat} (h : fewB debts B means n = true) : debts.length ≤ n ∧ B.length ≤ n ∧ means.length ≤ n ∧ ∀ r ∈ B, r.length ≤ 70 := by
  simp only [fewB, Bool.and_eq_true, decide_eq_true_eq] at h
  exact ⟨h.1.1.1, h.1.1.2, h.1.2, h.2⟩
theorem tells_fun (debts : List Int) (B : List (List Int)) (means : List Int) : Fun Try.prog 3 [.u (ints debts), .u (lists B), .u (ints means)] (· = .u (.bool true)) := by
  have h0 := small_fun
  obtain ⟨b, hb, h1⟩ := few_fun debts B means 14 (by omega)
  have h1 : Fun Try.prog 9 [.u (ints debts), .u (lists B), .u (ints means), .u (.int .i64 14)] (· = .u (.bool b)) := h1
  cases b with
  | false =>
    (refine Fun.of_body Try.func3 rfl (by simp) fun Γ hn => ?_); simp only [entry, List.zipIdx_cons, List.zipIdx_nil, List.map_cons, List.map_nil, Nat.zero_add, Try.ntmps3]
    repeat' (first
    | (refine H_cons ?_; simp)
    | (refine H_nil ?_; simp)
    | (refine V_sseq ?_; simp)
    | (refine V_scond ?_; simp)
    | (refine V_ret ?_; simp only [RK_seq, RK_seq_ret, RK_seq_exit, RK_blk, RK_blk_ret, RK_blk_exit, RK_loop, RK_loop_ret, RK_loop_exit, RK_done])
    | (refine CallP.fun_ (h0) (by first | rfl | fail) (by first | assumption | (simp; done) | fail) (by first | (simp; done) | (simp; rfl) | fail) (by first | (simp; done) | fail) (fun d hd => ?_); subst hd; (try simp))
    | (refine CallP.fun_ (h1) (by first | rfl | fail) (by first | assumption | (simp; done) | fail) (by first | (simp; done) | (simp; rfl) | fail) (by first | (simp; done) | fail) (fun d hd => ?_); subst hd; (try simp))
    | fail)
    all_goals
      (refine EndOK.val (.inr rfl) ?_; simp [resD, oneOrTup, pureD, Try.results3])
  | true =>
    obtain ⟨f1, f2, f3, f4⟩ := fewB_out (hb rfl)
    have f5 : ∀ r ∈ B, r.length ≤ 1000 := fun r hr => by have := f4 r hr; omega
    have h2 := move_fun debts B means (by omega) (by omega) (by omega) f5
    have h3 := rmove_fun debts B means (by omega) (by omega) (by omega) f5
    have h4 := right_fun debts B means (by omega) (by omega) (by omega) (fun r hr => by have := f4 r hr; omega)
    have h5 := rright_fun debts B means (by omega) (by omega) (by omega) (fun r hr => by have := f4 r hr; omega)
    have hm : ∃ p l e, moveD debts B means = .tup [.u (lists p), .u (ints l), .u (.int .i64 e)] ∧ p.length ≤ 1000 ∧ (∀ r ∈ p, r.length ≤ 1000) ∧ l.length ≤ 1000 := by
      unfold moveD
      split
      · refine ⟨_, _, _, rfl, by simp [moveP, matL]; omega, fun r hr => ?_, by simp [moveL, lst]; omega⟩
        obtain ⟨i, _, rfl⟩ := List.mem_map.1 hr
        simp [lst]; omega
      · exact ⟨[], [], 1, rfl, by simp, by simp, by simp⟩
    obtain ⟨p, l, e, hm, m1, m2, m3⟩ := hm
    rw [hm] at h2 h3
    have h6 := sameLists_fun p p (by omega) (fun r hr => by have := m2 r hr; omega)
    have h7 := same_fun l l (by omega)
    simp only [decide_true] at h6 h7
    (refine Fun.of_body Try.func3 rfl (by simp) fun Γ hn => ?_); simp only [entry, List.zipIdx_cons, List.zipIdx_nil, List.map_cons, List.map_nil, Nat.zero_add, Try.ntmps3]
    repeat' (first
    | (refine H_cons ?_; simp)
    | (refine H_nil ?_; simp)
    | (refine V_sseq ?_; simp)
    | (refine V_scond ?_; simp)
    | (refine V_ret ?_; simp only [RK_seq, RK_seq_ret, RK_seq_exit, RK_blk, RK_blk_ret, RK_blk_exit, RK_loop, RK_loop_ret, RK_loop_exit, RK_done])
    | (refine V_skip ?_; simp only [RK_seq, RK_seq_ret, RK_seq_exit, RK_blk, RK_blk_ret, RK_blk_exit, RK_loop, RK_loop_ret, RK_loop_exit, RK_done])
    | (refine CallP.fun_ (h0) (by first | rfl | fail) (by first | assumption | (simp; done) | fail) (by first | (simp; done) | (simp; rfl) | fail) (by first | (simp; done) | fail) (fun d hd => ?_); subst hd; (try simp))
    | (refine CallP.fun_ (h1) (by first | rfl | fail) (by first | assumption | (simp; done) | fail) (by first | (simp; done) | (simp; rfl) | fail) (by first | (simp; done) | fail) (fun d hd => ?_); subst hd; (try simp))
    | (refine CallP.fun_ (h2) (by first | rfl | fail) (by first | assumption | (simp; done) | fail) (by first | (simp; done) | (simp; rfl) | fail) (by first | (simp; done) | fail) (fun d hd => ?_); subst hd; (try simp))
    | (refine CallP.fun_ (h3) (by first | rfl | fail) (by first | assumption | (simp; done) | fail) (by first | (simp; done) | (simp; rfl) | fail) (by first | (simp; done) | fail) (fun d hd => ?_); subst hd; (try simp))
    | (refine CallP.fun_ (h4) (by first | rfl | fail) (by first | assumption | (simp; done) | fail) (by first | (simp; done) | (simp; rfl) | fail) (by first | (simp; done) | fail) (fun d hd => ?_); subst hd; (try simp))
    | (refine CallP.fun_ (h5) (by first | rfl | fail) (by first | assumption | (simp; done) | fail) (by first | (simp; done) | (simp; rfl) | fail) (by first | (simp; done) | fail) (fun d hd => ?_); subst hd; (try simp))
    | (refine CallP.fun_ (h6) (by first | rfl | fail) (by first | assumption | (simp; done) | fail) (by first | (simp; done) | (simp; rfl) | fail) (by first | (simp; done) | fail) (fun d hd => ?_); subst hd; (try simp))
    | (refine CallP.fun_ (h7) (by first | rfl | fail) (by first | assumption | (simp; done) | fail) (by first | (simp; done) | (simp; rfl) | fail) (by first | (simp; done) | fail) (fun d hd => ?_); subst hd; (try simp))
    | fail)
    all_goals
      (refine EndOK.val (.inr rfl) ?_; simp [resD, oneOrTup, pureD, Try.results3])
end Go.Proofs.Ytjmddlekokodfaa
