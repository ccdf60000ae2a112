/- Layer 23: the small examples, and the first law: the walks. -/
import Derived.Test.YtmebfcehkfaiaaaTm
import Derived.Test.YtmebfcehkfaiaaaTn
set_option linter.all false
set_option maxRecDepth 100000
set_option maxHeartbeats 8000000
set_option linter.all false
namespace Go.Proofs.Ytmebfcehkfaiaaa
open Go Go.VL
theorem validB_small : validB [6, 7, 8, 9] 1 = true := by rw [validB_eq]; decide
theorem order_small : orderS [6, 7, 8, 9] 1 12345 = [6, 8, 9, 7] := by
  rw [orderS, if_pos validB_small]
  decide
theorem draw_small : drawS 12345 5 5 = [3, 1, 0, 2, 4] := by decide
theorem next_small1 : nextS [7, 8, 9] [1, 0, 0] 2 0 5 = (8, true) := by
  rw [nextS, if_pos (by decide), if_pos rfl]
  decide
theorem next_small2 : nextS [7, 8, 9] [1, 0, 0] 0 0 5 = (9, true) := by
  rw [nextS, if_pos (by decide), if_neg (by decide), orderS, if_pos (by rw [validB_eq]; decide)]
  decide
theorem next_small3 : nextS [] [] 0 0 0 = (0, false) := by
  rw [nextS, if_neg (by decide)]
attribute [local simp] hcons hstep evPure opd uOf putOK St.put St.at getK binD binI binS binB nilD aggD eqUs cmpK lookD lookR rangeD nextD entryD keyD valU keyU lookK mkV entD_nil lookK_entD updK_entD1 updK_entD2 updK_entD3 allUE allUE_entD makeMapD mapUpdD mapEff updK valM Key.kk shiftI arith unD convD pickD loadD cellsAt fieldAddrD fieldD indexAddrD indexD sliceD cutD lenD minmaxD nilCheckD buildD fillD cellsD isOne ones setAll mkAgg allU allocD boxD storeD St.add buildSliceD appendD rowsOf makeD setOb getK_setOb getK_del getK_cons stripL strip guardTmp entry chunks zcells valD argsV argsW argW argU1 argU0 argsU0 argsU1 calleeOf scalarD scalarU delAll effD St.effS RK_seq RK_seq_ret RK_seq_exit RK_blk RK_blk_ret RK_blk_exit RK_loop RK_loop_ret RK_loop_exit RK_done vs_seq vs_block vs_skip vs_label vs_exit vs_ret vs_cond vs_region vs_loop vs_draw vs_range vs_scope applyW mkD rdIds lentIds callOf calleeOf freeOp D.ids Op.operands Call.operands isEffOp IntKind.bits allU2 allU2_append List.take_of_length_le List.range_succ
attribute [local irreducible] V G H HD HD2 RunK Eff CallP CallV EndOK Fun Ret FinOK LoopI LoopW EndW
theorem small_fun : Fun Try.prog 7 [] (· = .u (.bool true)) := by
  have h1 := next_fun [7, 8, 9] [1, 0, 0] 2 0 5 (by decide) (by decide)
  have h2 := next_fun [7, 8, 9] [1, 0, 0] 0 0 5 (by decide) (by decide)
  have h3 := next_fun [] [] 0 0 0 (by decide) (by decide)
  have h4 := draw_fun 12345 5 5
  have h5 := order_fun [6, 7, 8, 9] 1 12345 (by decide)
  have h6 := same_fun [3, 1, 0, 2, 4] [3, 1, 0, 2, 4] (by decide)
  have h7 := same_fun [6, 8, 9, 7] [6, 8, 9, 7] (by decide)
  rw [next_small1] at h1
  rw [next_small2] at h2
  rw [next_small3] at h3
  rw [draw_small] at h4
  rw [order_small] at h5
  simp only [ints, List.map_cons, List.map_nil, decide_true] at h1 h2 h3 h4 h5 h6 h7
  (refine Fun.of_body Try.func7 rfl (by simp) fun Γ hn => ?_); simp only [entry, List.zipIdx_cons, List.zipIdx_nil, List.map_cons, List.map_nil, Nat.zero_add, Try.ntmps7]
  repeat' (first
    | (refine H_cons ?_; simp)
    | (refine HD2_val rfl ?_; simp)
    | (refine HD_cons ?_; simp)
    | (refine HD2_chg rfl ?_; simp)
    | (refine H_nil ?_; simp)
    | (refine ⟨by omega, ?_⟩)
    | (refine V_sseq ?_; simp)
    | (refine V_scond ?_; simp)
    | (refine HD2_nil (hC _ (by kernel_rfl)) (hk _ ?_); clear hC hk C k; simp only [RK_seq, RK_seq_ret, RK_seq_exit, RK_blk, RK_blk_ret, RK_blk_exit, RK_loop, RK_loop_ret, RK_loop_exit, RK_done])
    | (refine HD_nil ?_)
    | (refine hk _ ?_; clear hk k; simp only [RK_seq, RK_seq_ret, RK_seq_exit, RK_blk, RK_blk_ret, RK_blk_exit, RK_loop, RK_loop_ret, RK_loop_exit, RK_done])
    | (refine V_drawV rfl (by kernel_rfl) (by kernel_rfl) fun k hk => ?_; simp)
    | (refine V_drawN rfl (by kernel_rfl) (by kernel_rfl) (by simp [hn]) fun C k hC hk => ?_; simp)
    | (refine HD3_val rfl ?_; simp)
    | (refine HD3_put ?_; simp)
    | (refine HD3_chg rfl rfl ?_; simp)
    | (refine HD3_nil (hC _ _ (by kernel_rfl) (by kernel_rfl)) (hk _ ?_); clear hC hk C k; simp only [RK_seq, RK_seq_ret, RK_seq_exit, RK_blk, RK_blk_ret, RK_blk_exit, RK_loop, RK_loop_ret, RK_loop_exit, RK_done]; simp [St.ins, insL, putE, getK_setOb, getK_cons])
    | (refine V_drawE rfl (by kernel_rfl) (by kernel_rfl) (by simp [hn]) fun C k hC hk => ?_; simp)
    | (refine HD_guardU rfl (by simp) ?_; simp)
    | (refine HD_guard rfl (by simp) (fun hc => ?_) (fun hc => ?_) <;> (try simp at hc) <;> (try (exfalso; omega)) <;> (try simp))
    | (refine HD2_guardU rfl (by simp) ?_; simp)
    | (refine HD2_guard rfl (by simp) (fun hc => ?_) (fun hc => ?_) <;> (try simp at hc) <;> (try (exfalso; omega)) <;> (try simp))
    | (refine V_sblock ?_; simp)
    | (refine V_sregion ?_; simp)
    | (refine V_ret ?_; simp only [RK_seq, RK_seq_ret, RK_seq_exit, RK_blk, RK_blk_ret, RK_blk_exit, RK_loop, RK_loop_ret, RK_loop_exit, RK_done])
    | (refine V_skip ?_; simp only [RK_seq, RK_seq_ret, RK_seq_exit, RK_blk, RK_blk_ret, RK_blk_exit, RK_loop, RK_loop_ret, RK_loop_exit, RK_done])
    | (refine V_exit ?_; simp [RK_seq, RK_seq_ret, RK_seq_exit, RK_blk, RK_blk_ret, RK_blk_exit, RK_loop, RK_loop_ret, RK_loop_exit, RK_done])
    | (refine ⟨?_, by omega⟩)
    | (refine ⟨fun hc => ?_, fun hc => ?_⟩ <;> (try (exfalso; omega)))
    | (intro hc <;> (try (exfalso; omega)))
    | (refine CallV.fun_ (h1) (by first | rfl | fail) (by first | assumption | (simp; done) | fail) (by first | (simp; done) | (simp; rfl) | fail) (by first | (simp; done) | fail) ?_ <;> (try simp))
    | (refine CallP.fun_ (h1) (by first | rfl | fail) (by first | assumption | (simp; done) | fail) (by first | (simp; done) | (simp; rfl) | fail) (by first | (simp; done) | fail) (fun d hd => ?_); subst hd; (try simp))
    | (refine CallV.fun_ (h2) (by first | rfl | fail) (by first | assumption | (simp; done) | fail) (by first | (simp; done) | (simp; rfl) | fail) (by first | (simp; done) | fail) ?_ <;> (try simp))
    | (refine CallP.fun_ (h2) (by first | rfl | fail) (by first | assumption | (simp; done) | fail) (by first | (simp; done) | (simp; rfl) | fail) (by first | (simp; done) | fail) (fun d hd => ?_); subst hd; (try simp))
    | (refine CallV.fun_ (h3) (by first | rfl | fail) (by first | assumption | (simp; done) | fail) (by first | (simp; done) | (simp; rfl) | fail) (by first | (simp; done) | fail) ?_ <;> (try simp))
    | (refine CallP.fun_ (h3) (by first | rfl | fail) (by first | assumption | (simp; done) | fail) (by first | (simp; done) | (simp; rfl) | fail) (by first | (simp; done) | fail) (fun d hd => ?_); subst hd; (try simp))
    | (refine CallV.fun_ (h4) (by first | rfl | fail) (by first | assumption | (simp; done) | fail) (by first | (simp; done) | (simp; rfl) | fail) (by first | (simp; done) | fail) ?_ <;> (try simp))
    | (refine CallP.fun_ (h4) (by first | rfl | fail) (by first | assumption | (simp; done) | fail) (by first | (simp; done) | (simp; rfl) | fail) (by first | (simp; done) | fail) (fun d hd => ?_); subst hd; (try simp))
    | (refine CallV.fun_ (h5) (by first | rfl | fail) (by first | assumption | (simp; done) | fail) (by first | (simp; done) | (simp; rfl) | fail) (by first | (simp; done) | fail) ?_ <;> (try simp))
    | (refine CallP.fun_ (h5) (by first | rfl | fail) (by first | assumption | (simp; done) | fail) (by first | (simp; done) | (simp; rfl) | fail) (by first | (simp; done) | fail) (fun d hd => ?_); subst hd; (try simp))
    | (refine CallV.fun_ (h6) (by first | rfl | fail) (by first | assumption | (simp; done) | fail) (by first | (simp; done) | (simp; rfl) | fail) (by first | (simp; done) | fail) ?_ <;> (try simp))
    | (refine CallP.fun_ (h6) (by first | rfl | fail) (by first | assumption | (simp; done) | fail) (by first | (simp; done) | (simp; rfl) | fail) (by first | (simp; done) | fail) (fun d hd => ?_); subst hd; (try simp))
    | (refine CallV.fun_ (h7) (by first | rfl | fail) (by first | assumption | (simp; done) | fail) (by first | (simp; done) | (simp; rfl) | fail) (by first | (simp; done) | fail) ?_ <;> (try simp))
    | (refine CallP.fun_ (h7) (by first | rfl | fail) (by first | assumption | (simp; done) | fail) (by first | (simp; done) | (simp; rfl) | fail) (by first | (simp; done) | fail) (fun d hd => ?_); subst hd; (try simp)))
  all_goals
    (refine EndOK.val (.inr rfl) ?_; simp [resD, oneOrTup, pureD, Try.results7])
theorem tells_fun (members had : List Int) (kind seed period n k : Int) : Fun Try.prog 3 [.u (ints members), .u (ints had), .u (.int .i64 kind), .u (.int .i64 seed), .u (.int .i64 period), .u (.int .i64 n), .u (.int .i64 k)] (· = .u (.bool true)) := by
  have h0 := small_fun
  have h1 := few_fun members
  have h2 := few_fun had
  by_cases hm : members.length ≤ 70
  · have hm2 : (members.length : Int) ≤ 70 := by omega
    by_cases hh : had.length ≤ 70
    · have hh2 : (had.length : Int) ≤ 70 := by omega
      have h3 := next_fun members had kind seed period (by omega) (by omega)
      have h4 := rnext_fun members had kind seed period (by omega) (by omega)
      have h5 := order_fun members kind seed (by omega)
      have h6 := rorder_fun members kind seed (by omega)
      have h7 := draw_fun seed n k
      have h8 := rdraw_fun seed n k
      have hol : (orderS members kind seed).length ≤ 1000000 := by
        rcases (show validB members kind = false ∨ validB members kind = true by cases validB members kind <;> simp) with h | h
        · simp [orderS, h]
        · rw [orderS_length h]; omega
      have hdl : (drawS seed n k).length ≤ 1000000 := by
        unfold drawS
        split
        · simp
        · rw [List.length_take, drawG_length]; omega
      have h9 := same_fun (orderS members kind seed) (orderS members kind seed) hol
      have h10 := same_fun (drawS seed n k) (drawS seed n k) hdl
      simp only [decide_true] at h9 h10
      generalize nextS members had kind seed period = x at h3 h4
      generalize orderS members kind seed = o at h5 h6 h9
      generalize drawS seed n k = d at h7 h8 h10
      (refine Fun.of_body Try.func3 rfl (by simp) fun Γ hn => ?_); simp only [entry, List.zipIdx_cons, List.zipIdx_nil, List.map_cons, List.map_nil, Nat.zero_add, Try.ntmps3]
      repeat' (first
    | (refine H_cons ?_; simp [hm2, hh2])
    | (refine HD2_val rfl ?_; simp [hm2, hh2])
    | (refine HD_cons ?_; simp [hm2, hh2])
    | (refine HD2_chg rfl ?_; simp [hm2, hh2])
    | (refine H_nil ?_; simp [hm2, hh2])
    | (refine ⟨by omega, ?_⟩)
    | (refine V_sseq ?_; simp [hm2, hh2])
    | (refine V_scond ?_; simp [hm2, hh2])
    | (refine HD2_nil (hC _ (by kernel_rfl)) (hk _ ?_); clear hC hk C k; simp only [RK_seq, RK_seq_ret, RK_seq_exit, RK_blk, RK_blk_ret, RK_blk_exit, RK_loop, RK_loop_ret, RK_loop_exit, RK_done])
    | (refine HD_nil ?_)
    | (refine hk _ ?_; clear hk k; simp only [RK_seq, RK_seq_ret, RK_seq_exit, RK_blk, RK_blk_ret, RK_blk_exit, RK_loop, RK_loop_ret, RK_loop_exit, RK_done])
    | (refine V_drawV rfl (by kernel_rfl) (by kernel_rfl) fun k hk => ?_; simp [hm2, hh2])
    | (refine V_drawN rfl (by kernel_rfl) (by kernel_rfl) (by simp [hn]) fun C k hC hk => ?_; simp [hm2, hh2])
    | (refine HD3_val rfl ?_; simp [hm2, hh2])
    | (refine HD3_put ?_; simp [hm2, hh2])
    | (refine HD3_chg rfl rfl ?_; simp [hm2, hh2])
    | (refine HD3_nil (hC _ _ (by kernel_rfl) (by kernel_rfl)) (hk _ ?_); clear hC hk C k; simp only [RK_seq, RK_seq_ret, RK_seq_exit, RK_blk, RK_blk_ret, RK_blk_exit, RK_loop, RK_loop_ret, RK_loop_exit, RK_done]; simp [St.ins, insL, putE, getK_setOb, getK_cons])
    | (refine V_drawE rfl (by kernel_rfl) (by kernel_rfl) (by simp [hn]) fun C k hC hk => ?_; simp [hm2, hh2])
    | (refine HD_guardU rfl (by simp [hm2, hh2]) ?_; simp [hm2, hh2])
    | (refine HD_guard rfl (by simp [hm2, hh2]) (fun hc => ?_) (fun hc => ?_) <;> (try simp [hm2, hh2] at hc) <;> (try (exfalso; omega)) <;> (try simp [hm2, hh2]))
    | (refine HD2_guardU rfl (by simp [hm2, hh2]) ?_; simp [hm2, hh2])
    | (refine HD2_guard rfl (by simp [hm2, hh2]) (fun hc => ?_) (fun hc => ?_) <;> (try simp [hm2, hh2] at hc) <;> (try (exfalso; omega)) <;> (try simp [hm2, hh2]))
    | (refine V_sblock ?_; simp [hm2, hh2])
    | (refine V_sregion ?_; simp [hm2, hh2])
    | (refine V_ret ?_; simp only [RK_seq, RK_seq_ret, RK_seq_exit, RK_blk, RK_blk_ret, RK_blk_exit, RK_loop, RK_loop_ret, RK_loop_exit, RK_done])
    | (refine V_skip ?_; simp only [RK_seq, RK_seq_ret, RK_seq_exit, RK_blk, RK_blk_ret, RK_blk_exit, RK_loop, RK_loop_ret, RK_loop_exit, RK_done])
    | (refine V_exit ?_; simp [RK_seq, RK_seq_ret, RK_seq_exit, RK_blk, RK_blk_ret, RK_blk_exit, RK_loop, RK_loop_ret, RK_loop_exit, RK_done])
    | (refine ⟨?_, by omega⟩)
    | (refine ⟨fun hc => ?_, fun hc => ?_⟩ <;> (try (exfalso; omega)))
    | (intro hc <;> (try (exfalso; omega)))
    | (refine CallV.fun_ (h0) (by first | rfl | fail) (by first | assumption | (simp; done) | fail) (by first | (simp [hm2, hh2]; done) | (simp [hm2, hh2]; rfl) | fail) (by first | (simp; done) | fail) ?_ <;> (try simp [hm2, hh2]))
    | (refine CallP.fun_ (h0) (by first | rfl | fail) (by first | assumption | (simp; done) | fail) (by first | (simp [hm2, hh2]; done) | (simp [hm2, hh2]; rfl) | fail) (by first | (simp; done) | fail) (fun d hd => ?_); subst hd; (try simp [hm2, hh2]))
    | (refine CallV.fun_ (h1) (by first | rfl | fail) (by first | assumption | (simp; done) | fail) (by first | (simp [hm2, hh2]; done) | (simp [hm2, hh2]; rfl) | fail) (by first | (simp; done) | fail) ?_ <;> (try simp [hm2, hh2]))
    | (refine CallP.fun_ (h1) (by first | rfl | fail) (by first | assumption | (simp; done) | fail) (by first | (simp [hm2, hh2]; done) | (simp [hm2, hh2]; rfl) | fail) (by first | (simp; done) | fail) (fun d hd => ?_); subst hd; (try simp [hm2, hh2]))
    | (refine CallV.fun_ (h2) (by first | rfl | fail) (by first | assumption | (simp; done) | fail) (by first | (simp [hm2, hh2]; done) | (simp [hm2, hh2]; rfl) | fail) (by first | (simp; done) | fail) ?_ <;> (try simp [hm2, hh2]))
    | (refine CallP.fun_ (h2) (by first | rfl | fail) (by first | assumption | (simp; done) | fail) (by first | (simp [hm2, hh2]; done) | (simp [hm2, hh2]; rfl) | fail) (by first | (simp; done) | fail) (fun d hd => ?_); subst hd; (try simp [hm2, hh2]))
    | (refine CallV.fun_ (h3) (by first | rfl | fail) (by first | assumption | (simp; done) | fail) (by first | (simp [hm2, hh2]; done) | (simp [hm2, hh2]; rfl) | fail) (by first | (simp; done) | fail) ?_ <;> (try simp [hm2, hh2]))
    | (refine CallP.fun_ (h3) (by first | rfl | fail) (by first | assumption | (simp; done) | fail) (by first | (simp [hm2, hh2]; done) | (simp [hm2, hh2]; rfl) | fail) (by first | (simp; done) | fail) (fun d hd => ?_); subst hd; (try simp [hm2, hh2]))
    | (refine CallV.fun_ (h4) (by first | rfl | fail) (by first | assumption | (simp; done) | fail) (by first | (simp [hm2, hh2]; done) | (simp [hm2, hh2]; rfl) | fail) (by first | (simp; done) | fail) ?_ <;> (try simp [hm2, hh2]))
    | (refine CallP.fun_ (h4) (by first | rfl | fail) (by first | assumption | (simp; done) | fail) (by first | (simp [hm2, hh2]; done) | (simp [hm2, hh2]; rfl) | fail) (by first | (simp; done) | fail) (fun d hd => ?_); subst hd; (try simp [hm2, hh2]))
    | (refine CallV.fun_ (h5) (by first | rfl | fail) (by first | assumption | (simp; done) | fail) (by first | (simp [hm2, hh2]; done) | (simp [hm2, hh2]; rfl) | fail) (by first | (simp; done) | fail) ?_ <;> (try simp [hm2, hh2]))
    | (refine CallP.fun_ (h5) (by first | rfl | fail) (by first | assumption | (simp; done) | fail) (by first | (simp [hm2, hh2]; done) | (simp [hm2, hh2]; rfl) | fail) (by first | (simp; done) | fail) (fun d hd => ?_); subst hd; (try simp [hm2, hh2]))
    | (refine CallV.fun_ (h6) (by first | rfl | fail) (by first | assumption | (simp; done) | fail) (by first | (simp [hm2, hh2]; done) | (simp [hm2, hh2]; rfl) | fail) (by first | (simp; done) | fail) ?_ <;> (try simp [hm2, hh2]))
    | (refine CallP.fun_ (h6) (by first | rfl | fail) (by first | assumption | (simp; done) | fail) (by first | (simp [hm2, hh2]; done) | (simp [hm2, hh2]; rfl) | fail) (by first | (simp; done) | fail) (fun d hd => ?_); subst hd; (try simp [hm2, hh2]))
    | (refine CallV.fun_ (h7) (by first | rfl | fail) (by first | assumption | (simp; done) | fail) (by first | (simp [hm2, hh2]; done) | (simp [hm2, hh2]; rfl) | fail) (by first | (simp; done) | fail) ?_ <;> (try simp [hm2, hh2]))
    | (refine CallP.fun_ (h7) (by first | rfl | fail) (by first | assumption | (simp; done) | fail) (by first | (simp [hm2, hh2]; done) | (simp [hm2, hh2]; rfl) | fail) (by first | (simp; done) | fail) (fun d hd => ?_); subst hd; (try simp [hm2, hh2]))
    | (refine CallV.fun_ (h8) (by first | rfl | fail) (by first | assumption | (simp; done) | fail) (by first | (simp [hm2, hh2]; done) | (simp [hm2, hh2]; rfl) | fail) (by first | (simp; done) | fail) ?_ <;> (try simp [hm2, hh2]))
    | (refine CallP.fun_ (h8) (by first | rfl | fail) (by first | assumption | (simp; done) | fail) (by first | (simp [hm2, hh2]; done) | (simp [hm2, hh2]; rfl) | fail) (by first | (simp; done) | fail) (fun d hd => ?_); subst hd; (try simp [hm2, hh2]))
    | (refine CallV.fun_ (h9) (by first | rfl | fail) (by first | assumption | (simp; done) | fail) (by first | (simp [hm2, hh2]; done) | (simp [hm2, hh2]; rfl) | fail) (by first | (simp; done) | fail) ?_ <;> (try simp [hm2, hh2]))
    | (refine CallP.fun_ (h9) (by first | rfl | fail) (by first | assumption | (simp; done) | fail) (by first | (simp [hm2, hh2]; done) | (simp [hm2, hh2]; rfl) | fail) (by first | (simp; done) | fail) (fun d hd => ?_); subst hd; (try simp [hm2, hh2]))
    | (refine CallV.fun_ (h10) (by first | rfl | fail) (by first | assumption | (simp; done) | fail) (by first | (simp [hm2, hh2]; done) | (simp [hm2, hh2]; rfl) | fail) (by first | (simp; done) | fail) ?_ <;> (try simp [hm2, hh2]))
    | (refine CallP.fun_ (h10) (by first | rfl | fail) (by first | assumption | (simp; done) | fail) (by first | (simp [hm2, hh2]; done) | (simp [hm2, hh2]; rfl) | fail) (by first | (simp; done) | fail) (fun d hd => ?_); subst hd; (try simp [hm2, hh2])))
      all_goals
        (refine EndOK.val (.inr rfl) ?_; simp [resD, oneOrTup, pureD, Try.results3])
    · have hh2 : ¬ (had.length : Int) ≤ 70 := by omega
      (refine Fun.of_body Try.func3 rfl (by simp) fun Γ hn => ?_); simp only [entry, List.zipIdx_cons, List.zipIdx_nil, List.map_cons, List.map_nil, Nat.zero_add, Try.ntmps3]
      repeat' (first
    | (refine H_cons ?_; simp [hm2, hh2])
    | (refine HD2_val rfl ?_; simp [hm2, hh2])
    | (refine HD_cons ?_; simp [hm2, hh2])
    | (refine HD2_chg rfl ?_; simp [hm2, hh2])
    | (refine H_nil ?_; simp [hm2, hh2])
    | (refine ⟨by omega, ?_⟩)
    | (refine V_sseq ?_; simp [hm2, hh2])
    | (refine V_scond ?_; simp [hm2, hh2])
    | (refine HD2_nil (hC _ (by kernel_rfl)) (hk _ ?_); clear hC hk C k; simp only [RK_seq, RK_seq_ret, RK_seq_exit, RK_blk, RK_blk_ret, RK_blk_exit, RK_loop, RK_loop_ret, RK_loop_exit, RK_done])
    | (refine HD_nil ?_)
    | (refine hk _ ?_; clear hk k; simp only [RK_seq, RK_seq_ret, RK_seq_exit, RK_blk, RK_blk_ret, RK_blk_exit, RK_loop, RK_loop_ret, RK_loop_exit, RK_done])
    | (refine V_drawV rfl (by kernel_rfl) (by kernel_rfl) fun k hk => ?_; simp [hm2, hh2])
    | (refine V_drawN rfl (by kernel_rfl) (by kernel_rfl) (by simp [hn]) fun C k hC hk => ?_; simp [hm2, hh2])
    | (refine HD3_val rfl ?_; simp [hm2, hh2])
    | (refine HD3_put ?_; simp [hm2, hh2])
    | (refine HD3_chg rfl rfl ?_; simp [hm2, hh2])
    | (refine HD3_nil (hC _ _ (by kernel_rfl) (by kernel_rfl)) (hk _ ?_); clear hC hk C k; simp only [RK_seq, RK_seq_ret, RK_seq_exit, RK_blk, RK_blk_ret, RK_blk_exit, RK_loop, RK_loop_ret, RK_loop_exit, RK_done]; simp [St.ins, insL, putE, getK_setOb, getK_cons])
    | (refine V_drawE rfl (by kernel_rfl) (by kernel_rfl) (by simp [hn]) fun C k hC hk => ?_; simp [hm2, hh2])
    | (refine HD_guardU rfl (by simp [hm2, hh2]) ?_; simp [hm2, hh2])
    | (refine HD_guard rfl (by simp [hm2, hh2]) (fun hc => ?_) (fun hc => ?_) <;> (try simp [hm2, hh2] at hc) <;> (try (exfalso; omega)) <;> (try simp [hm2, hh2]))
    | (refine HD2_guardU rfl (by simp [hm2, hh2]) ?_; simp [hm2, hh2])
    | (refine HD2_guard rfl (by simp [hm2, hh2]) (fun hc => ?_) (fun hc => ?_) <;> (try simp [hm2, hh2] at hc) <;> (try (exfalso; omega)) <;> (try simp [hm2, hh2]))
    | (refine V_sblock ?_; simp [hm2, hh2])
    | (refine V_sregion ?_; simp [hm2, hh2])
    | (refine V_ret ?_; simp only [RK_seq, RK_seq_ret, RK_seq_exit, RK_blk, RK_blk_ret, RK_blk_exit, RK_loop, RK_loop_ret, RK_loop_exit, RK_done])
    | (refine V_skip ?_; simp only [RK_seq, RK_seq_ret, RK_seq_exit, RK_blk, RK_blk_ret, RK_blk_exit, RK_loop, RK_loop_ret, RK_loop_exit, RK_done])
    | (refine V_exit ?_; simp [RK_seq, RK_seq_ret, RK_seq_exit, RK_blk, RK_blk_ret, RK_blk_exit, RK_loop, RK_loop_ret, RK_loop_exit, RK_done])
    | (refine ⟨?_, by omega⟩)
    | (refine ⟨fun hc => ?_, fun hc => ?_⟩ <;> (try (exfalso; omega)))
    | (intro hc <;> (try (exfalso; omega)))
    | (refine CallV.fun_ (h0) (by first | rfl | fail) (by first | assumption | (simp; done) | fail) (by first | (simp [hm2, hh2]; done) | (simp [hm2, hh2]; rfl) | fail) (by first | (simp; done) | fail) ?_ <;> (try simp [hm2, hh2]))
    | (refine CallP.fun_ (h0) (by first | rfl | fail) (by first | assumption | (simp; done) | fail) (by first | (simp [hm2, hh2]; done) | (simp [hm2, hh2]; rfl) | fail) (by first | (simp; done) | fail) (fun d hd => ?_); subst hd; (try simp [hm2, hh2]))
    | (refine CallV.fun_ (h1) (by first | rfl | fail) (by first | assumption | (simp; done) | fail) (by first | (simp [hm2, hh2]; done) | (simp [hm2, hh2]; rfl) | fail) (by first | (simp; done) | fail) ?_ <;> (try simp [hm2, hh2]))
    | (refine CallP.fun_ (h1) (by first | rfl | fail) (by first | assumption | (simp; done) | fail) (by first | (simp [hm2, hh2]; done) | (simp [hm2, hh2]; rfl) | fail) (by first | (simp; done) | fail) (fun d hd => ?_); subst hd; (try simp [hm2, hh2]))
    | (refine CallV.fun_ (h2) (by first | rfl | fail) (by first | assumption | (simp; done) | fail) (by first | (simp [hm2, hh2]; done) | (simp [hm2, hh2]; rfl) | fail) (by first | (simp; done) | fail) ?_ <;> (try simp [hm2, hh2]))
    | (refine CallP.fun_ (h2) (by first | rfl | fail) (by first | assumption | (simp; done) | fail) (by first | (simp [hm2, hh2]; done) | (simp [hm2, hh2]; rfl) | fail) (by first | (simp; done) | fail) (fun d hd => ?_); subst hd; (try simp [hm2, hh2])))
      all_goals
        (refine EndOK.val (.inr rfl) ?_; simp [resD, oneOrTup, pureD, Try.results3])
  · have hm2 : ¬ (members.length : Int) ≤ 70 := by omega
    (refine Fun.of_body Try.func3 rfl (by simp) fun Γ hn => ?_); simp only [entry, List.zipIdx_cons, List.zipIdx_nil, List.map_cons, List.map_nil, Nat.zero_add, Try.ntmps3]
    repeat' (first
    | (refine H_cons ?_; simp [hm2])
    | (refine HD2_val rfl ?_; simp [hm2])
    | (refine HD_cons ?_; simp [hm2])
    | (refine HD2_chg rfl ?_; simp [hm2])
    | (refine H_nil ?_; simp [hm2])
    | (refine ⟨by omega, ?_⟩)
    | (refine V_sseq ?_; simp [hm2])
    | (refine V_scond ?_; simp [hm2])
    | (refine HD2_nil (hC _ (by kernel_rfl)) (hk _ ?_); clear hC hk C k; simp only [RK_seq, RK_seq_ret, RK_seq_exit, RK_blk, RK_blk_ret, RK_blk_exit, RK_loop, RK_loop_ret, RK_loop_exit, RK_done])
    | (refine HD_nil ?_)
    | (refine hk _ ?_; clear hk k; simp only [RK_seq, RK_seq_ret, RK_seq_exit, RK_blk, RK_blk_ret, RK_blk_exit, RK_loop, RK_loop_ret, RK_loop_exit, RK_done])
    | (refine V_drawV rfl (by kernel_rfl) (by kernel_rfl) fun k hk => ?_; simp [hm2])
    | (refine V_drawN rfl (by kernel_rfl) (by kernel_rfl) (by simp [hn]) fun C k hC hk => ?_; simp [hm2])
    | (refine HD3_val rfl ?_; simp [hm2])
    | (refine HD3_put ?_; simp [hm2])
    | (refine HD3_chg rfl rfl ?_; simp [hm2])
    | (refine HD3_nil (hC _ _ (by kernel_rfl) (by kernel_rfl)) (hk _ ?_); clear hC hk C k; simp only [RK_seq, RK_seq_ret, RK_seq_exit, RK_blk, RK_blk_ret, RK_blk_exit, RK_loop, RK_loop_ret, RK_loop_exit, RK_done]; simp [St.ins, insL, putE, getK_setOb, getK_cons])
    | (refine V_drawE rfl (by kernel_rfl) (by kernel_rfl) (by simp [hn]) fun C k hC hk => ?_; simp [hm2])
    | (refine HD_guardU rfl (by simp [hm2]) ?_; simp [hm2])
    | (refine HD_guard rfl (by simp [hm2]) (fun hc => ?_) (fun hc => ?_) <;> (try simp [hm2] at hc) <;> (try (exfalso; omega)) <;> (try simp [hm2]))
    | (refine HD2_guardU rfl (by simp [hm2]) ?_; simp [hm2])
    | (refine HD2_guard rfl (by simp [hm2]) (fun hc => ?_) (fun hc => ?_) <;> (try simp [hm2] at hc) <;> (try (exfalso; omega)) <;> (try simp [hm2]))
    | (refine V_sblock ?_; simp [hm2])
    | (refine V_sregion ?_; simp [hm2])
    | (refine V_ret ?_; simp only [RK_seq, RK_seq_ret, RK_seq_exit, RK_blk, RK_blk_ret, RK_blk_exit, RK_loop, RK_loop_ret, RK_loop_exit, RK_done])
    | (refine V_skip ?_; simp only [RK_seq, RK_seq_ret, RK_seq_exit, RK_blk, RK_blk_ret, RK_blk_exit, RK_loop, RK_loop_ret, RK_loop_exit, RK_done])
    | (refine V_exit ?_; simp [RK_seq, RK_seq_ret, RK_seq_exit, RK_blk, RK_blk_ret, RK_blk_exit, RK_loop, RK_loop_ret, RK_loop_exit, RK_done])
    | (refine ⟨?_, by omega⟩)
    | (refine ⟨fun hc => ?_, fun hc => ?_⟩ <;> (try (exfalso; omega)))
    | (intro hc <;> (try (exfalso; omega)))
    | (refine CallV.fun_ (h0) (by first | rfl | fail) (by first | assumption | (simp; done) | fail) (by first | (simp [hm2]; done) | (simp [hm2]; rfl) | fail) (by first | (simp; done) | fail) ?_ <;> (try simp [hm2]))
    | (refine CallP.fun_ (h0) (by first | rfl | fail) (by first | assumption | (simp; done) | fail) (by first | (simp [hm2]; done) | (simp [hm2]; rfl) | fail) (by first | (simp; done) | fail) (fun d hd => ?_); subst hd; (try simp [hm2]))
    | (refine CallV.fun_ (h1) (by first | rfl | fail) (by first | assumption | (simp; done) | fail) (by first | (simp [hm2]; done) | (simp [hm2]; rfl) | fail) (by first | (simp; done) | fail) ?_ <;> (try simp [hm2]))
    | (refine CallP.fun_ (h1) (by first | rfl | fail) (by first | assumption | (simp; done) | fail) (by first | (simp [hm2]; done) | (simp [hm2]; rfl) | fail) (by first | (simp; done) | fail) (fun d hd => ?_); subst hd; (try simp [hm2]))
    | (refine CallV.fun_ (h2) (by first | rfl | fail) (by first | assumption | (simp; done) | fail) (by first | (simp [hm2]; done) | (simp [hm2]; rfl) | fail) (by first | (simp; done) | fail) ?_ <;> (try simp [hm2]))
    | (refine CallP.fun_ (h2) (by first | rfl | fail) (by first | assumption | (simp; done) | fail) (by first | (simp [hm2]; done) | (simp [hm2]; rfl) | fail) (by first | (simp; done) | fail) (fun d hd => ?_); subst hd; (try simp [hm2])))
    all_goals
      (refine EndOK.val (.inr rfl) ?_; simp [resD, oneOrTup, pureD, Try.results3])
end Go.Proofs.Ytmebfcehkfaiaaa
