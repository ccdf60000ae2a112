/- Layer 23: the law on turns by need: the walk. -/
import Derived.Test.YtmebfcehkfaiaaaTo
set_option linter.all false
set_option maxRecDepth 100000
set_option maxHeartbeats 8000000
set_option linter.all false
namespace Go.Proofs.Ytmebfcehkfaiaaa
open Go Go.VL
attribute [local simp] hcons hstep evPure opd uOf putOK St.put St.at getK binD binI binS binB nilD aggD eqUs cmpK lookD lookR rangeD nextD entryD keyD valU keyU lookK mkV entD_nil lookK_entD updK_entD1 updK_entD2 updK_entD3 allUE allUE_entD makeMapD mapUpdD mapEff updK valM Key.kk shiftI arith unD convD pickD loadD cellsAt fieldAddrD fieldD indexAddrD indexD sliceD cutD lenD minmaxD nilCheckD buildD fillD cellsD isOne ones setAll mkAgg allU allocD boxD storeD St.add buildSliceD appendD rowsOf makeD setOb getK_setOb getK_del getK_cons stripL strip guardTmp entry chunks zcells valD argsV argsW argW argU1 argU0 argsU0 argsU1 calleeOf scalarD scalarU delAll effD St.effS RK_seq RK_seq_ret RK_seq_exit RK_blk RK_blk_ret RK_blk_exit RK_loop RK_loop_ret RK_loop_exit RK_done vs_seq vs_block vs_skip vs_label vs_exit vs_ret vs_cond vs_region vs_loop vs_draw vs_range vs_scope applyW mkD rdIds lentIds callOf calleeOf freeOp D.ids Op.operands Call.operands isEffOp IntKind.bits allU2 allU2_append List.take_of_length_le List.range_succ
attribute [local irreducible] V G H HD HD2 RunK Eff CallP CallV EndOK Fun Ret FinOK LoopI LoopW EndW
theorem need_fun (members had : List Int) (n : Int) (hn0 : 0 ≤ n) (hn1 : n ≤ 255) : Fun Try.prog 6 [.u (ints members), .u (ints had), .u (.int .u8 n)] (· = .u (.bool true)) := by
  have h0 := small_fun
  by_cases hm : members.length ≤ 12
  case neg =>
    have hm2 : 12 < members.length := by omega
    (refine Fun.of_body Try.func6 rfl (by simp) fun Γ hn => ?_); simp only [entry, List.zipIdx_cons, List.zipIdx_nil, List.map_cons, List.map_nil, Nat.zero_add, Try.ntmps6]
    repeat' (first
    | (refine H_cons ?_; simp [hm2])
    | (refine HD2_val rfl ?_; simp [hm2])
    | (refine HD_cons ?_; simp [hm2])
    | (refine HD2_chg rfl ?_; simp [hm2])
    | (refine H_nil ?_; simp [hm2])
    | (refine ⟨by omega, ?_⟩)
    | (refine V_sseq ?_; simp [hm2])
    | (refine V_scond ?_; simp [hm2])
    | (refine HD2_nil (hC _ (by kernel_rfl)) (hk _ ?_); clear hC hk C k; simp only [RK_seq, RK_seq_ret, RK_seq_exit, RK_blk, RK_blk_ret, RK_blk_exit, RK_loop, RK_loop_ret, RK_loop_exit, RK_done])
    | (refine HD_nil ?_)
    | (refine hk _ ?_; clear hk k; simp only [RK_seq, RK_seq_ret, RK_seq_exit, RK_blk, RK_blk_ret, RK_blk_exit, RK_loop, RK_loop_ret, RK_loop_exit, RK_done])
    | (refine V_drawV rfl (by kernel_rfl) (by kernel_rfl) fun k hk => ?_; simp [hm2])
    | (refine V_drawN rfl (by kernel_rfl) (by kernel_rfl) (by simp [hn]) fun C k hC hk => ?_; simp [hm2])
    | (refine HD3_val rfl ?_; simp [hm2])
    | (refine HD3_put ?_; simp [hm2])
    | (refine HD3_chg rfl rfl ?_; simp [hm2])
    | (refine HD3_nil (hC _ _ (by kernel_rfl) (by kernel_rfl)) (hk _ ?_); clear hC hk C k; simp only [RK_seq, RK_seq_ret, RK_seq_exit, RK_blk, RK_blk_ret, RK_blk_exit, RK_loop, RK_loop_ret, RK_loop_exit, RK_done]; simp [St.ins, insL, putE, getK_setOb, getK_cons])
    | (refine V_drawE rfl (by kernel_rfl) (by kernel_rfl) (by simp [hn]) fun C k hC hk => ?_; simp [hm2])
    | (refine HD_guardU rfl (by simp [hm2]) ?_; simp [hm2])
    | (refine HD_guard rfl (by simp [hm2]) (fun hc => ?_) (fun hc => ?_) <;> (try simp [hm2] at hc) <;> (try (exfalso; omega)) <;> (try simp [hm2]))
    | (refine HD2_guardU rfl (by simp [hm2]) ?_; simp [hm2])
    | (refine HD2_guard rfl (by simp [hm2]) (fun hc => ?_) (fun hc => ?_) <;> (try simp [hm2] at hc) <;> (try (exfalso; omega)) <;> (try simp [hm2]))
    | (refine V_sblock ?_; simp [hm2])
    | (refine V_sregion ?_; simp [hm2])
    | (refine V_ret ?_; simp only [RK_seq, RK_seq_ret, RK_seq_exit, RK_blk, RK_blk_ret, RK_blk_exit, RK_loop, RK_loop_ret, RK_loop_exit, RK_done])
    | (refine V_skip ?_; simp only [RK_seq, RK_seq_ret, RK_seq_exit, RK_blk, RK_blk_ret, RK_blk_exit, RK_loop, RK_loop_ret, RK_loop_exit, RK_done])
    | (refine V_exit ?_; simp [RK_seq, RK_seq_ret, RK_seq_exit, RK_blk, RK_blk_ret, RK_blk_exit, RK_loop, RK_loop_ret, RK_loop_exit, RK_done])
    | (refine ⟨?_, by omega⟩)
    | (refine ⟨fun hc => ?_, fun hc => ?_⟩ <;> (try (exfalso; omega)))
    | (intro hc <;> (try (exfalso; omega)))
    | (refine CallV.fun_ (h0) (by first | rfl | fail) (by first | assumption | (simp; done) | fail) (by first | (simp [hm2]; done) | (simp [hm2]; rfl) | fail) (by first | (simp; done) | fail) ?_ <;> (try simp [hm2]))
    | (refine CallP.fun_ (h0) (by first | rfl | fail) (by first | assumption | (simp; done) | fail) (by first | (simp [hm2]; done) | (simp [hm2]; rfl) | fail) (by first | (simp; done) | fail) (fun d hd => ?_); subst hd; (try simp [hm2])))
    all_goals
      (refine EndOK.val (.inr rfl) ?_; simp [resD, oneOrTup, pureD, Try.results6])
  by_cases hme : members = []
  · subst hme
    (refine Fun.of_body Try.func6 rfl (by simp) fun Γ hn => ?_); simp only [entry, List.zipIdx_cons, List.zipIdx_nil, List.map_cons, List.map_nil, Nat.zero_add, Try.ntmps6]
    repeat' (first
    | (refine H_cons ?_; simp)
    | (refine HD2_val rfl ?_; simp)
    | (refine HD_cons ?_; simp)
    | (refine HD2_chg rfl ?_; simp)
    | (refine H_nil ?_; simp)
    | (refine ⟨by omega, ?_⟩)
    | (refine V_sseq ?_; simp)
    | (refine V_scond ?_; simp)
    | (refine HD2_nil (hC _ (by kernel_rfl)) (hk _ ?_); clear hC hk C k; simp only [RK_seq, RK_seq_ret, RK_seq_exit, RK_blk, RK_blk_ret, RK_blk_exit, RK_loop, RK_loop_ret, RK_loop_exit, RK_done])
    | (refine HD_nil ?_)
    | (refine hk _ ?_; clear hk k; simp only [RK_seq, RK_seq_ret, RK_seq_exit, RK_blk, RK_blk_ret, RK_blk_exit, RK_loop, RK_loop_ret, RK_loop_exit, RK_done])
    | (refine V_drawV rfl (by kernel_rfl) (by kernel_rfl) fun k hk => ?_; simp)
    | (refine V_drawN rfl (by kernel_rfl) (by kernel_rfl) (by simp [hn]) fun C k hC hk => ?_; simp)
    | (refine HD3_val rfl ?_; simp)
    | (refine HD3_put ?_; simp)
    | (refine HD3_chg rfl rfl ?_; simp)
    | (refine HD3_nil (hC _ _ (by kernel_rfl) (by kernel_rfl)) (hk _ ?_); clear hC hk C k; simp only [RK_seq, RK_seq_ret, RK_seq_exit, RK_blk, RK_blk_ret, RK_blk_exit, RK_loop, RK_loop_ret, RK_loop_exit, RK_done]; simp [St.ins, insL, putE, getK_setOb, getK_cons])
    | (refine V_drawE rfl (by kernel_rfl) (by kernel_rfl) (by simp [hn]) fun C k hC hk => ?_; simp)
    | (refine HD_guardU rfl (by simp) ?_; simp)
    | (refine HD_guard rfl (by simp) (fun hc => ?_) (fun hc => ?_) <;> (try simp at hc) <;> (try (exfalso; omega)) <;> (try simp))
    | (refine HD2_guardU rfl (by simp) ?_; simp)
    | (refine HD2_guard rfl (by simp) (fun hc => ?_) (fun hc => ?_) <;> (try simp at hc) <;> (try (exfalso; omega)) <;> (try simp))
    | (refine V_sblock ?_; simp)
    | (refine V_sregion ?_; simp)
    | (refine V_ret ?_; simp only [RK_seq, RK_seq_ret, RK_seq_exit, RK_blk, RK_blk_ret, RK_blk_exit, RK_loop, RK_loop_ret, RK_loop_exit, RK_done])
    | (refine V_skip ?_; simp only [RK_seq, RK_seq_ret, RK_seq_exit, RK_blk, RK_blk_ret, RK_blk_exit, RK_loop, RK_loop_ret, RK_loop_exit, RK_done])
    | (refine V_exit ?_; simp [RK_seq, RK_seq_ret, RK_seq_exit, RK_blk, RK_blk_ret, RK_blk_exit, RK_loop, RK_loop_ret, RK_loop_exit, RK_done])
    | (refine ⟨?_, by omega⟩)
    | (refine ⟨fun hc => ?_, fun hc => ?_⟩ <;> (try (exfalso; omega)))
    | (intro hc <;> (try (exfalso; omega)))
    | (refine CallV.fun_ (h0) (by first | rfl | fail) (by first | assumption | (simp; done) | fail) (by first | (simp; done) | (simp; rfl) | fail) (by first | (simp; done) | fail) ?_ <;> (try simp))
    | (refine CallP.fun_ (h0) (by first | rfl | fail) (by first | assumption | (simp; done) | fail) (by first | (simp; done) | (simp; rfl) | fail) (by first | (simp; done) | fail) (fun d hd => ?_); subst hd; (try simp)))
    all_goals
      (refine EndOK.val (.inr rfl) ?_; simp [resD, oneOrTup, pureD, Try.results6])
  have hm2 : ¬ 12 < members.length := by omega
  have hmp : 0 < members.length := List.length_pos_iff.2 hme
  have hm0 : ¬ members.length = 0 := by omega
  have h1 := right_fun members (by omega)
  by_cases hr : rightS members = true
  case neg =>
    rw [show rightS members = false by simpa using hr] at h1
    (refine Fun.of_body Try.func6 rfl (by simp) fun Γ hn => ?_); simp only [entry, List.zipIdx_cons, List.zipIdx_nil, List.map_cons, List.map_nil, Nat.zero_add, Try.ntmps6]
    repeat' (first
    | (refine H_cons ?_; simp [hm2, hm0, hme])
    | (refine HD2_val rfl ?_; simp [hm2, hm0, hme])
    | (refine HD_cons ?_; simp [hm2, hm0, hme])
    | (refine HD2_chg rfl ?_; simp [hm2, hm0, hme])
    | (refine H_nil ?_; simp [hm2, hm0, hme])
    | (refine ⟨by omega, ?_⟩)
    | (refine V_sseq ?_; simp [hm2, hm0, hme])
    | (refine V_scond ?_; simp [hm2, hm0, hme])
    | (refine HD2_nil (hC _ (by kernel_rfl)) (hk _ ?_); clear hC hk C k; simp only [RK_seq, RK_seq_ret, RK_seq_exit, RK_blk, RK_blk_ret, RK_blk_exit, RK_loop, RK_loop_ret, RK_loop_exit, RK_done])
    | (refine HD_nil ?_)
    | (refine hk _ ?_; clear hk k; simp only [RK_seq, RK_seq_ret, RK_seq_exit, RK_blk, RK_blk_ret, RK_blk_exit, RK_loop, RK_loop_ret, RK_loop_exit, RK_done])
    | (refine V_drawV rfl (by kernel_rfl) (by kernel_rfl) fun k hk => ?_; simp [hm2, hm0, hme])
    | (refine V_drawN rfl (by kernel_rfl) (by kernel_rfl) (by simp [hn]) fun C k hC hk => ?_; simp [hm2, hm0, hme])
    | (refine HD3_val rfl ?_; simp [hm2, hm0, hme])
    | (refine HD3_put ?_; simp [hm2, hm0, hme])
    | (refine HD3_chg rfl rfl ?_; simp [hm2, hm0, hme])
    | (refine HD3_nil (hC _ _ (by kernel_rfl) (by kernel_rfl)) (hk _ ?_); clear hC hk C k; simp only [RK_seq, RK_seq_ret, RK_seq_exit, RK_blk, RK_blk_ret, RK_blk_exit, RK_loop, RK_loop_ret, RK_loop_exit, RK_done]; simp [St.ins, insL, putE, getK_setOb, getK_cons])
    | (refine V_drawE rfl (by kernel_rfl) (by kernel_rfl) (by simp [hn]) fun C k hC hk => ?_; simp [hm2, hm0, hme])
    | (refine HD_guardU rfl (by simp [hm2, hm0, hme]) ?_; simp [hm2, hm0, hme])
    | (refine HD_guard rfl (by simp [hm2, hm0, hme]) (fun hc => ?_) (fun hc => ?_) <;> (try simp [hm2, hm0, hme] at hc) <;> (try (exfalso; omega)) <;> (try simp [hm2, hm0, hme]))
    | (refine HD2_guardU rfl (by simp [hm2, hm0, hme]) ?_; simp [hm2, hm0, hme])
    | (refine HD2_guard rfl (by simp [hm2, hm0, hme]) (fun hc => ?_) (fun hc => ?_) <;> (try simp [hm2, hm0, hme] at hc) <;> (try (exfalso; omega)) <;> (try simp [hm2, hm0, hme]))
    | (refine V_sblock ?_; simp [hm2, hm0, hme])
    | (refine V_sregion ?_; simp [hm2, hm0, hme])
    | (refine V_ret ?_; simp only [RK_seq, RK_seq_ret, RK_seq_exit, RK_blk, RK_blk_ret, RK_blk_exit, RK_loop, RK_loop_ret, RK_loop_exit, RK_done])
    | (refine V_skip ?_; simp only [RK_seq, RK_seq_ret, RK_seq_exit, RK_blk, RK_blk_ret, RK_blk_exit, RK_loop, RK_loop_ret, RK_loop_exit, RK_done])
    | (refine V_exit ?_; simp [RK_seq, RK_seq_ret, RK_seq_exit, RK_blk, RK_blk_ret, RK_blk_exit, RK_loop, RK_loop_ret, RK_loop_exit, RK_done])
    | (refine ⟨?_, by omega⟩)
    | (refine ⟨fun hc => ?_, fun hc => ?_⟩ <;> (try (exfalso; omega)))
    | (intro hc <;> (try (exfalso; omega)))
    | (refine CallV.fun_ (h0) (by first | rfl | fail) (by first | assumption | (simp; done) | fail) (by first | (simp [hm2, hm0, hme]; done) | (simp [hm2, hm0, hme]; rfl) | fail) (by first | (simp; done) | fail) ?_ <;> (try simp [hm2, hm0, hme]))
    | (refine CallP.fun_ (h0) (by first | rfl | fail) (by first | assumption | (simp; done) | fail) (by first | (simp [hm2, hm0, hme]; done) | (simp [hm2, hm0, hme]; rfl) | fail) (by first | (simp; done) | fail) (fun d hd => ?_); subst hd; (try simp [hm2, hm0, hme]))
    | (refine CallV.fun_ (h1) (by first | rfl | fail) (by first | assumption | (simp; done) | fail) (by first | (simp [hm2, hm0, hme]; done) | (simp [hm2, hm0, hme]; rfl) | fail) (by first | (simp; done) | fail) ?_ <;> (try simp [hm2, hm0, hme]))
    | (refine CallP.fun_ (h1) (by first | rfl | fail) (by first | assumption | (simp; done) | fail) (by first | (simp [hm2, hm0, hme]; done) | (simp [hm2, hm0, hme]; rfl) | fail) (by first | (simp; done) | fail) (fun d hd => ?_); subst hd; (try simp [hm2, hm0, hme])))
    all_goals
      (refine EndOK.val (.inr rfl) ?_; simp [resD, oneOrTup, pureD, Try.results6])
  rw [hr] at h1
  by_cases hl : had.length = members.length
  case neg =>
    have hl2 : ¬ (had.length : Int) = members.length := by omega
    (refine Fun.of_body Try.func6 rfl (by simp) fun Γ hn => ?_); simp only [entry, List.zipIdx_cons, List.zipIdx_nil, List.map_cons, List.map_nil, Nat.zero_add, Try.ntmps6]
    repeat' (first
    | (refine H_cons ?_; simp [hm2, hm0, hme, hl, hl2])
    | (refine HD2_val rfl ?_; simp [hm2, hm0, hme, hl, hl2])
    | (refine HD_cons ?_; simp [hm2, hm0, hme, hl, hl2])
    | (refine HD2_chg rfl ?_; simp [hm2, hm0, hme, hl, hl2])
    | (refine H_nil ?_; simp [hm2, hm0, hme, hl, hl2])
    | (refine ⟨by omega, ?_⟩)
    | (refine V_sseq ?_; simp [hm2, hm0, hme, hl, hl2])
    | (refine V_scond ?_; simp [hm2, hm0, hme, hl, hl2])
    | (refine HD2_nil (hC _ (by kernel_rfl)) (hk _ ?_); clear hC hk C k; simp only [RK_seq, RK_seq_ret, RK_seq_exit, RK_blk, RK_blk_ret, RK_blk_exit, RK_loop, RK_loop_ret, RK_loop_exit, RK_done])
    | (refine HD_nil ?_)
    | (refine hk _ ?_; clear hk k; simp only [RK_seq, RK_seq_ret, RK_seq_exit, RK_blk, RK_blk_ret, RK_blk_exit, RK_loop, RK_loop_ret, RK_loop_exit, RK_done])
    | (refine V_drawV rfl (by kernel_rfl) (by kernel_rfl) fun k hk => ?_; simp [hm2, hm0, hme, hl, hl2])
    | (refine V_drawN rfl (by kernel_rfl) (by kernel_rfl) (by simp [hn]) fun C k hC hk => ?_; simp [hm2, hm0, hme, hl, hl2])
    | (refine HD3_val rfl ?_; simp [hm2, hm0, hme, hl, hl2])
    | (refine HD3_put ?_; simp [hm2, hm0, hme, hl, hl2])
    | (refine HD3_chg rfl rfl ?_; simp [hm2, hm0, hme, hl, hl2])
    | (refine HD3_nil (hC _ _ (by kernel_rfl) (by kernel_rfl)) (hk _ ?_); clear hC hk C k; simp only [RK_seq, RK_seq_ret, RK_seq_exit, RK_blk, RK_blk_ret, RK_blk_exit, RK_loop, RK_loop_ret, RK_loop_exit, RK_done]; simp [St.ins, insL, putE, getK_setOb, getK_cons])
    | (refine V_drawE rfl (by kernel_rfl) (by kernel_rfl) (by simp [hn]) fun C k hC hk => ?_; simp [hm2, hm0, hme, hl, hl2])
    | (refine HD_guardU rfl (by simp [hm2, hm0, hme, hl, hl2]) ?_; simp [hm2, hm0, hme, hl, hl2])
    | (refine HD_guard rfl (by simp [hm2, hm0, hme, hl, hl2]) (fun hc => ?_) (fun hc => ?_) <;> (try simp [hm2, hm0, hme, hl, hl2] at hc) <;> (try (exfalso; omega)) <;> (try simp [hm2, hm0, hme, hl, hl2]))
    | (refine HD2_guardU rfl (by simp [hm2, hm0, hme, hl, hl2]) ?_; simp [hm2, hm0, hme, hl, hl2])
    | (refine HD2_guard rfl (by simp [hm2, hm0, hme, hl, hl2]) (fun hc => ?_) (fun hc => ?_) <;> (try simp [hm2, hm0, hme, hl, hl2] at hc) <;> (try (exfalso; omega)) <;> (try simp [hm2, hm0, hme, hl, hl2]))
    | (refine V_sblock ?_; simp [hm2, hm0, hme, hl, hl2])
    | (refine V_sregion ?_; simp [hm2, hm0, hme, hl, hl2])
    | (refine V_ret ?_; simp only [RK_seq, RK_seq_ret, RK_seq_exit, RK_blk, RK_blk_ret, RK_blk_exit, RK_loop, RK_loop_ret, RK_loop_exit, RK_done])
    | (refine V_skip ?_; simp only [RK_seq, RK_seq_ret, RK_seq_exit, RK_blk, RK_blk_ret, RK_blk_exit, RK_loop, RK_loop_ret, RK_loop_exit, RK_done])
    | (refine V_exit ?_; simp [RK_seq, RK_seq_ret, RK_seq_exit, RK_blk, RK_blk_ret, RK_blk_exit, RK_loop, RK_loop_ret, RK_loop_exit, RK_done])
    | (refine ⟨?_, by omega⟩)
    | (refine ⟨fun hc => ?_, fun hc => ?_⟩ <;> (try (exfalso; omega)))
    | (intro hc <;> (try (exfalso; omega)))
    | (refine CallV.fun_ (h0) (by first | rfl | fail) (by first | assumption | (simp; done) | fail) (by first | (simp [hm2, hm0, hme, hl, hl2]; done) | (simp [hm2, hm0, hme, hl, hl2]; rfl) | fail) (by first | (simp; done) | fail) ?_ <;> (try simp [hm2, hm0, hme, hl, hl2]))
    | (refine CallP.fun_ (h0) (by first | rfl | fail) (by first | assumption | (simp; done) | fail) (by first | (simp [hm2, hm0, hme, hl, hl2]; done) | (simp [hm2, hm0, hme, hl, hl2]; rfl) | fail) (by first | (simp; done) | fail) (fun d hd => ?_); subst hd; (try simp [hm2, hm0, hme, hl, hl2]))
    | (refine CallV.fun_ (h1) (by first | rfl | fail) (by first | assumption | (simp; done) | fail) (by first | (simp [hm2, hm0, hme, hl, hl2]; done) | (simp [hm2, hm0, hme, hl, hl2]; rfl) | fail) (by first | (simp; done) | fail) ?_ <;> (try simp [hm2, hm0, hme, hl, hl2]))
    | (refine CallP.fun_ (h1) (by first | rfl | fail) (by first | assumption | (simp; done) | fail) (by first | (simp [hm2, hm0, hme, hl, hl2]; done) | (simp [hm2, hm0, hme, hl, hl2]; rfl) | fail) (by first | (simp; done) | fail) (fun d hd => ?_); subst hd; (try simp [hm2, hm0, hme, hl, hl2])))
    all_goals
      (refine EndOK.val (.inr rfl) ?_; simp [resD, oneOrTup, pureD, Try.results6])
  have hl2 : (had.length : Int) = members.length := by omega
  have hnod := rightS_nodup hr
  have hne : had ≠ [] := fun h => by subst h; exact hm0 hl.symm
  (refine Fun.of_body Try.func6 rfl (by simp) fun Γ hn => ?_); simp only [entry, List.zipIdx_cons, List.zipIdx_nil, List.map_cons, List.map_nil, Nat.zero_add, Try.ntmps6]
  repeat' (first
    | (refine H_cons ?_; simp [hm2, hm0, hme, hl, hl2])
    | (refine HD2_val rfl ?_; simp [hm2, hm0, hme, hl, hl2])
    | (refine HD_cons ?_; simp [hm2, hm0, hme, hl, hl2])
    | (refine HD2_chg rfl ?_; simp [hm2, hm0, hme, hl, hl2])
    | (refine H_nil ?_; simp [hm2, hm0, hme, hl, hl2])
    | (refine ⟨by omega, ?_⟩)
    | (refine V_sseq ?_; simp [hm2, hm0, hme, hl, hl2])
    | (refine V_scond ?_; simp [hm2, hm0, hme, hl, hl2])
    | (refine HD2_nil (hC _ (by kernel_rfl)) (hk _ ?_); clear hC hk C k; simp only [RK_seq, RK_seq_ret, RK_seq_exit, RK_blk, RK_blk_ret, RK_blk_exit, RK_loop, RK_loop_ret, RK_loop_exit, RK_done])
    | (refine HD_nil ?_)
    | (refine hk _ ?_; clear hk k; simp only [RK_seq, RK_seq_ret, RK_seq_exit, RK_blk, RK_blk_ret, RK_blk_exit, RK_loop, RK_loop_ret, RK_loop_exit, RK_done])
    | (refine V_drawV rfl (by kernel_rfl) (by kernel_rfl) fun k hk => ?_; simp [hm2, hm0, hme, hl, hl2])
    | (refine V_drawN rfl (by kernel_rfl) (by kernel_rfl) (by simp [hn]) fun C k hC hk => ?_; simp [hm2, hm0, hme, hl, hl2])
    | (refine HD3_val rfl ?_; simp [hm2, hm0, hme, hl, hl2])
    | (refine HD3_put ?_; simp [hm2, hm0, hme, hl, hl2])
    | (refine HD3_chg rfl rfl ?_; simp [hm2, hm0, hme, hl, hl2])
    | (refine HD3_nil (hC _ _ (by kernel_rfl) (by kernel_rfl)) (hk _ ?_); clear hC hk C k; simp only [RK_seq, RK_seq_ret, RK_seq_exit, RK_blk, RK_blk_ret, RK_blk_exit, RK_loop, RK_loop_ret, RK_loop_exit, RK_done]; simp [St.ins, insL, putE, getK_setOb, getK_cons])
    | (refine V_drawE rfl (by kernel_rfl) (by kernel_rfl) (by simp [hn]) fun C k hC hk => ?_; simp [hm2, hm0, hme, hl, hl2])
    | (refine HD_guardU rfl (by simp [hm2, hm0, hme, hl, hl2]) ?_; simp [hm2, hm0, hme, hl, hl2])
    | (refine HD_guard rfl (by simp [hm2, hm0, hme, hl, hl2]) (fun hc => ?_) (fun hc => ?_) <;> (try simp [hm2, hm0, hme, hl, hl2] at hc) <;> (try (exfalso; omega)) <;> (try simp [hm2, hm0, hme, hl, hl2]))
    | (refine HD2_guardU rfl (by simp [hm2, hm0, hme, hl, hl2]) ?_; simp [hm2, hm0, hme, hl, hl2])
    | (refine HD2_guard rfl (by simp [hm2, hm0, hme, hl, hl2]) (fun hc => ?_) (fun hc => ?_) <;> (try simp [hm2, hm0, hme, hl, hl2] at hc) <;> (try (exfalso; omega)) <;> (try simp [hm2, hm0, hme, hl, hl2]))
    | (refine V_sblock ?_; simp [hm2, hm0, hme, hl, hl2])
    | (refine V_sregion ?_; simp [hm2, hm0, hme, hl, hl2])
    | (refine V_ret ?_; simp only [RK_seq, RK_seq_ret, RK_seq_exit, RK_blk, RK_blk_ret, RK_blk_exit, RK_loop, RK_loop_ret, RK_loop_exit, RK_done])
    | (refine V_skip ?_; simp only [RK_seq, RK_seq_ret, RK_seq_exit, RK_blk, RK_blk_ret, RK_blk_exit, RK_loop, RK_loop_ret, RK_loop_exit, RK_done])
    | (refine V_exit ?_; simp [RK_seq, RK_seq_ret, RK_seq_exit, RK_blk, RK_blk_ret, RK_blk_exit, RK_loop, RK_loop_ret, RK_loop_exit, RK_done])
    | (refine ⟨?_, by omega⟩)
    | (refine ⟨fun hc => ?_, fun hc => ?_⟩ <;> (try (exfalso; omega)))
    | (intro hc <;> (try (exfalso; omega)))
    | (refine CallV.fun_ (h0) (by first | rfl | fail) (by first | assumption | (simp; done) | fail) (by first | (simp [hm2, hm0, hme, hl, hl2]; done) | (simp [hm2, hm0, hme, hl, hl2]; rfl) | fail) (by first | (simp; done) | fail) ?_ <;> (try simp [hm2, hm0, hme, hl, hl2]))
    | (refine CallP.fun_ (h0) (by first | rfl | fail) (by first | assumption | (simp; done) | fail) (by first | (simp [hm2, hm0, hme, hl, hl2]; done) | (simp [hm2, hm0, hme, hl, hl2]; rfl) | fail) (by first | (simp; done) | fail) (fun d hd => ?_); subst hd; (try simp [hm2, hm0, hme, hl, hl2]))
    | (refine CallV.fun_ (h1) (by first | rfl | fail) (by first | assumption | (simp; done) | fail) (by first | (simp [hm2, hm0, hme, hl, hl2]; done) | (simp [hm2, hm0, hme, hl, hl2]; rfl) | fail) (by first | (simp; done) | fail) ?_ <;> (try simp [hm2, hm0, hme, hl, hl2]))
    | (refine CallP.fun_ (h1) (by first | rfl | fail) (by first | assumption | (simp; done) | fail) (by first | (simp [hm2, hm0, hme, hl, hl2]; done) | (simp [hm2, hm0, hme, hl, hl2]; rfl) | fail) (by first | (simp; done) | fail) (fun d hd => ?_); subst hd; (try simp [hm2, hm0, hme, hl, hl2])))
  refine V_loopO (α := { i : Nat // i ≤ had.length ∧ ∀ x ∈ had.take i, 0 ≤ x ∧ x ≤ 1000 }) [0, 1, 2, 7, 8] (fun i => [(9, .u (.int .i64 (had.take i.1).sum)), (10, .u (.int .i64 i.1))]) (fun i => [(1, .vec 3 1 (intR had))]) 2 (fun i => had.length - i.1) ⟨0, by omega, by simp⟩ ?_ ?_
  · exact (Wk.cut rfl (by simp [hn]) (by simp [wkO, St.lp, getK_cons, getK, Ob.under, D.under, under_rowsD, under_entD, intR, rowsD]) (by simp [wkU, St.lp, keepE, getK_cons, getK, D.under, intR, rowsD]) (by simp [wkE, St.lp, keepE, getK_cons, getK, intR, rowsD] <;> (try (intros; simp_all; done)) <;> (try (intros; omega)) <;> (try grind)))
  rintro ⟨i, hi, hb⟩
  simp [St.lp, St.only, keepE, getK_cons, getK]
  have hsb := sum_bound _ 1000 hb
  have hsl : (had.take i).length ≤ 12 := by rw [List.length_take]; omega
  have hsb2 : (had.take i).sum ≤ 12000 := by
    have : ((had.take i).length : Int) * 1000 ≤ 12000 := by omega
    omega
  rcases hx : had[i]? with _ | a
  case some =>
    have hlt : i < had.length := (List.getElem?_eq_some_iff.1 hx).1
    have hsn := sum_take_succ hx
    by_cases ha : a < 0 ∨ 1000 < a
    · rcases ha with ha | ha
      · repeat' (first
    | (refine H_cons ?_; simp [hx, ha])
    | (refine HD2_val rfl ?_; simp [hx, ha])
    | (refine HD_cons ?_; simp [hx, ha])
    | (refine HD2_chg rfl ?_; simp [hx, ha])
    | (refine H_nil ?_; simp [hx, ha])
    | (refine ⟨by omega, ?_⟩)
    | (refine V_sseq ?_; simp [hx, ha])
    | (refine V_scond ?_; simp [hx, ha])
    | (refine HD2_nil (hC _ (by kernel_rfl)) (hk _ ?_); clear hC hk C k; simp only [RK_seq, RK_seq_ret, RK_seq_exit, RK_blk, RK_blk_ret, RK_blk_exit, RK_loop, RK_loop_ret, RK_loop_exit, RK_done])
    | (refine HD_nil ?_)
    | (refine hk _ ?_; clear hk k; simp only [RK_seq, RK_seq_ret, RK_seq_exit, RK_blk, RK_blk_ret, RK_blk_exit, RK_loop, RK_loop_ret, RK_loop_exit, RK_done])
    | (refine V_drawV rfl (by kernel_rfl) (by kernel_rfl) fun k hk => ?_; simp [hx, ha])
    | (refine V_drawN rfl (by kernel_rfl) (by kernel_rfl) (by simp [hn]) fun C k hC hk => ?_; simp [hx, ha])
    | (refine HD3_val rfl ?_; simp [hx, ha])
    | (refine HD3_put ?_; simp [hx, ha])
    | (refine HD3_chg rfl rfl ?_; simp [hx, ha])
    | (refine HD3_nil (hC _ _ (by kernel_rfl) (by kernel_rfl)) (hk _ ?_); clear hC hk C k; simp only [RK_seq, RK_seq_ret, RK_seq_exit, RK_blk, RK_blk_ret, RK_blk_exit, RK_loop, RK_loop_ret, RK_loop_exit, RK_done]; simp [St.ins, insL, putE, getK_setOb, getK_cons])
    | (refine V_drawE rfl (by kernel_rfl) (by kernel_rfl) (by simp [hn]) fun C k hC hk => ?_; simp [hx, ha])
    | (refine HD_guardU rfl (by simp [hx, ha]) ?_; simp [hx, ha])
    | (refine HD_guard rfl (by simp [hx, ha]) (fun hc => ?_) (fun hc => ?_) <;> (try simp [hx, ha] at hc) <;> (try (exfalso; omega)) <;> (try simp [hx, ha]))
    | (refine HD2_guardU rfl (by simp [hx, ha]) ?_; simp [hx, ha])
    | (refine HD2_guard rfl (by simp [hx, ha]) (fun hc => ?_) (fun hc => ?_) <;> (try simp [hx, ha] at hc) <;> (try (exfalso; omega)) <;> (try simp [hx, ha]))
    | (refine V_sblock ?_; simp [hx, ha])
    | (refine V_sregion ?_; simp [hx, ha])
    | (refine V_ret ?_; simp only [RK_seq, RK_seq_ret, RK_seq_exit, RK_blk, RK_blk_ret, RK_blk_exit, RK_loop, RK_loop_ret, RK_loop_exit, RK_done])
    | (refine V_skip ?_; simp only [RK_seq, RK_seq_ret, RK_seq_exit, RK_blk, RK_blk_ret, RK_blk_exit, RK_loop, RK_loop_ret, RK_loop_exit, RK_done])
    | (refine V_exit ?_; simp [RK_seq, RK_seq_ret, RK_seq_exit, RK_blk, RK_blk_ret, RK_blk_exit, RK_loop, RK_loop_ret, RK_loop_exit, RK_done])
    | (refine ⟨?_, by omega⟩)
    | (refine ⟨fun hc => ?_, fun hc => ?_⟩ <;> (try (exfalso; omega)))
    | (intro hc <;> (try (exfalso; omega))))
        all_goals
          (refine EndOK.val (.inr rfl) ?_; simp [resD, oneOrTup, pureD, Try.results6])
      · have ha2 : ¬ a < 0 := by omega
        repeat' (first
    | (refine H_cons ?_; simp [hx, ha, ha2])
    | (refine HD2_val rfl ?_; simp [hx, ha, ha2])
    | (refine HD_cons ?_; simp [hx, ha, ha2])
    | (refine HD2_chg rfl ?_; simp [hx, ha, ha2])
    | (refine H_nil ?_; simp [hx, ha, ha2])
    | (refine ⟨by omega, ?_⟩)
    | (refine V_sseq ?_; simp [hx, ha, ha2])
    | (refine V_scond ?_; simp [hx, ha, ha2])
    | (refine HD2_nil (hC _ (by kernel_rfl)) (hk _ ?_); clear hC hk C k; simp only [RK_seq, RK_seq_ret, RK_seq_exit, RK_blk, RK_blk_ret, RK_blk_exit, RK_loop, RK_loop_ret, RK_loop_exit, RK_done])
    | (refine HD_nil ?_)
    | (refine hk _ ?_; clear hk k; simp only [RK_seq, RK_seq_ret, RK_seq_exit, RK_blk, RK_blk_ret, RK_blk_exit, RK_loop, RK_loop_ret, RK_loop_exit, RK_done])
    | (refine V_drawV rfl (by kernel_rfl) (by kernel_rfl) fun k hk => ?_; simp [hx, ha, ha2])
    | (refine V_drawN rfl (by kernel_rfl) (by kernel_rfl) (by simp [hn]) fun C k hC hk => ?_; simp [hx, ha, ha2])
    | (refine HD3_val rfl ?_; simp [hx, ha, ha2])
    | (refine HD3_put ?_; simp [hx, ha, ha2])
    | (refine HD3_chg rfl rfl ?_; simp [hx, ha, ha2])
    | (refine HD3_nil (hC _ _ (by kernel_rfl) (by kernel_rfl)) (hk _ ?_); clear hC hk C k; simp only [RK_seq, RK_seq_ret, RK_seq_exit, RK_blk, RK_blk_ret, RK_blk_exit, RK_loop, RK_loop_ret, RK_loop_exit, RK_done]; simp [St.ins, insL, putE, getK_setOb, getK_cons])
    | (refine V_drawE rfl (by kernel_rfl) (by kernel_rfl) (by simp [hn]) fun C k hC hk => ?_; simp [hx, ha, ha2])
    | (refine HD_guardU rfl (by simp [hx, ha, ha2]) ?_; simp [hx, ha, ha2])
    | (refine HD_guard rfl (by simp [hx, ha, ha2]) (fun hc => ?_) (fun hc => ?_) <;> (try simp [hx, ha, ha2] at hc) <;> (try (exfalso; omega)) <;> (try simp [hx, ha, ha2]))
    | (refine HD2_guardU rfl (by simp [hx, ha, ha2]) ?_; simp [hx, ha, ha2])
    | (refine HD2_guard rfl (by simp [hx, ha, ha2]) (fun hc => ?_) (fun hc => ?_) <;> (try simp [hx, ha, ha2] at hc) <;> (try (exfalso; omega)) <;> (try simp [hx, ha, ha2]))
    | (refine V_sblock ?_; simp [hx, ha, ha2])
    | (refine V_sregion ?_; simp [hx, ha, ha2])
    | (refine V_ret ?_; simp only [RK_seq, RK_seq_ret, RK_seq_exit, RK_blk, RK_blk_ret, RK_blk_exit, RK_loop, RK_loop_ret, RK_loop_exit, RK_done])
    | (refine V_skip ?_; simp only [RK_seq, RK_seq_ret, RK_seq_exit, RK_blk, RK_blk_ret, RK_blk_exit, RK_loop, RK_loop_ret, RK_loop_exit, RK_done])
    | (refine V_exit ?_; simp [RK_seq, RK_seq_ret, RK_seq_exit, RK_blk, RK_blk_ret, RK_blk_exit, RK_loop, RK_loop_ret, RK_loop_exit, RK_done])
    | (refine ⟨?_, by omega⟩)
    | (refine ⟨fun hc => ?_, fun hc => ?_⟩ <;> (try (exfalso; omega)))
    | (intro hc <;> (try (exfalso; omega))))
        all_goals
          (refine EndOK.val (.inr rfl) ?_; simp [resD, oneOrTup, pureD, Try.results6])
    · have ha1 : ¬ a < 0 := by omega
      have ha2 : ¬ 1000 < a := by omega
      repeat' (first
    | (refine H_cons ?_; simp [hx, ha1, ha2])
    | (refine HD2_val rfl ?_; simp [hx, ha1, ha2])
    | (refine HD_cons ?_; simp [hx, ha1, ha2])
    | (refine HD2_chg rfl ?_; simp [hx, ha1, ha2])
    | (refine H_nil ?_; simp [hx, ha1, ha2])
    | (refine ⟨by omega, ?_⟩)
    | (refine V_sseq ?_; simp [hx, ha1, ha2])
    | (refine V_scond ?_; simp [hx, ha1, ha2])
    | (refine HD2_nil (hC _ (by kernel_rfl)) (hk _ ?_); clear hC hk C k; simp only [RK_seq, RK_seq_ret, RK_seq_exit, RK_blk, RK_blk_ret, RK_blk_exit, RK_loop, RK_loop_ret, RK_loop_exit, RK_done])
    | (refine HD_nil ?_)
    | (refine hk _ ?_; clear hk k; simp only [RK_seq, RK_seq_ret, RK_seq_exit, RK_blk, RK_blk_ret, RK_blk_exit, RK_loop, RK_loop_ret, RK_loop_exit, RK_done])
    | (refine V_drawV rfl (by kernel_rfl) (by kernel_rfl) fun k hk => ?_; simp [hx, ha1, ha2])
    | (refine V_drawN rfl (by kernel_rfl) (by kernel_rfl) (by simp [hn]) fun C k hC hk => ?_; simp [hx, ha1, ha2])
    | (refine HD3_val rfl ?_; simp [hx, ha1, ha2])
    | (refine HD3_put ?_; simp [hx, ha1, ha2])
    | (refine HD3_chg rfl rfl ?_; simp [hx, ha1, ha2])
    | (refine HD3_nil (hC _ _ (by kernel_rfl) (by kernel_rfl)) (hk _ ?_); clear hC hk C k; simp only [RK_seq, RK_seq_ret, RK_seq_exit, RK_blk, RK_blk_ret, RK_blk_exit, RK_loop, RK_loop_ret, RK_loop_exit, RK_done]; simp [St.ins, insL, putE, getK_setOb, getK_cons])
    | (refine V_drawE rfl (by kernel_rfl) (by kernel_rfl) (by simp [hn]) fun C k hC hk => ?_; simp [hx, ha1, ha2])
    | (refine HD_guardU rfl (by simp [hx, ha1, ha2]) ?_; simp [hx, ha1, ha2])
    | (refine HD_guard rfl (by simp [hx, ha1, ha2]) (fun hc => ?_) (fun hc => ?_) <;> (try simp [hx, ha1, ha2] at hc) <;> (try (exfalso; omega)) <;> (try simp [hx, ha1, ha2]))
    | (refine HD2_guardU rfl (by simp [hx, ha1, ha2]) ?_; simp [hx, ha1, ha2])
    | (refine HD2_guard rfl (by simp [hx, ha1, ha2]) (fun hc => ?_) (fun hc => ?_) <;> (try simp [hx, ha1, ha2] at hc) <;> (try (exfalso; omega)) <;> (try simp [hx, ha1, ha2]))
    | (refine V_sblock ?_; simp [hx, ha1, ha2])
    | (refine V_sregion ?_; simp [hx, ha1, ha2])
    | (refine V_ret ?_; simp only [RK_seq, RK_seq_ret, RK_seq_exit, RK_blk, RK_blk_ret, RK_blk_exit, RK_loop, RK_loop_ret, RK_loop_exit, RK_done])
    | (refine V_skip ?_; simp only [RK_seq, RK_seq_ret, RK_seq_exit, RK_blk, RK_blk_ret, RK_blk_exit, RK_loop, RK_loop_ret, RK_loop_exit, RK_done])
    | (refine V_exit ?_; simp [RK_seq, RK_seq_ret, RK_seq_exit, RK_blk, RK_blk_ret, RK_blk_exit, RK_loop, RK_loop_ret, RK_loop_exit, RK_done])
    | (refine ⟨?_, by omega⟩)
    | (refine ⟨fun hc => ?_, fun hc => ?_⟩ <;> (try (exfalso; omega)))
    | (intro hc <;> (try (exfalso; omega))))
      refine LoopW.next ⟨i + 1, by omega, all_snoc (p := fun x => 0 ≤ x ∧ x ≤ 1000) hx hb (by omega)⟩ (by simp; omega) ?_
      exact (Wk.cut rfl (by simp [hn]) (by simp [wkO, St.lp, getK_cons, getK, Ob.under, D.under, under_rowsD, under_entD, hsn, pure_intR, under_intR]) (by simp [wkU, St.lp, keepE, getK_cons, getK, D.under, hsn, pure_intR, under_intR]) (by simp [wkE, St.lp, keepE, getK_cons, getK, hsn, pure_intR, under_intR] <;> (try (intros; simp_all; done)) <;> (try (intros; omega)) <;> (try grind)))
  have hge : had.length ≤ i := by simpa using hx
  obtain rfl : i = had.length := by omega
  rw [List.take_length] at hb hsb hsb2
  simp only [List.take_length]
  have hsp := spread_fun had (by omega) hne (fun x hx => by have := hb x hx; omega)
  repeat' (first
    | (refine H_cons ?_; simp [hx])
    | (refine HD2_val rfl ?_; simp [hx])
    | (refine HD_cons ?_; simp [hx])
    | (refine HD2_chg rfl ?_; simp [hx])
    | (refine H_nil ?_; simp [hx])
    | (refine ⟨by omega, ?_⟩)
    | (refine V_sseq ?_; simp [hx])
    | (refine V_scond ?_; simp [hx])
    | (refine HD2_nil (hC _ (by kernel_rfl)) (hk _ ?_); clear hC hk C k; simp only [RK_seq, RK_seq_ret, RK_seq_exit, RK_blk, RK_blk_ret, RK_blk_exit, RK_loop, RK_loop_ret, RK_loop_exit, RK_done])
    | (refine HD_nil ?_)
    | (refine hk _ ?_; clear hk k; simp only [RK_seq, RK_seq_ret, RK_seq_exit, RK_blk, RK_blk_ret, RK_blk_exit, RK_loop, RK_loop_ret, RK_loop_exit, RK_done])
    | (refine V_drawV rfl (by kernel_rfl) (by kernel_rfl) fun k hk => ?_; simp [hx])
    | (refine V_drawN rfl (by kernel_rfl) (by kernel_rfl) (by simp [hn]) fun C k hC hk => ?_; simp [hx])
    | (refine HD3_val rfl ?_; simp [hx])
    | (refine HD3_put ?_; simp [hx])
    | (refine HD3_chg rfl rfl ?_; simp [hx])
    | (refine HD3_nil (hC _ _ (by kernel_rfl) (by kernel_rfl)) (hk _ ?_); clear hC hk C k; simp only [RK_seq, RK_seq_ret, RK_seq_exit, RK_blk, RK_blk_ret, RK_blk_exit, RK_loop, RK_loop_ret, RK_loop_exit, RK_done]; simp [St.ins, insL, putE, getK_setOb, getK_cons])
    | (refine V_drawE rfl (by kernel_rfl) (by kernel_rfl) (by simp [hn]) fun C k hC hk => ?_; simp [hx])
    | (refine HD_guardU rfl (by simp [hx]) ?_; simp [hx])
    | (refine HD_guard rfl (by simp [hx]) (fun hc => ?_) (fun hc => ?_) <;> (try simp [hx] at hc) <;> (try (exfalso; omega)) <;> (try simp [hx]))
    | (refine HD2_guardU rfl (by simp [hx]) ?_; simp [hx])
    | (refine HD2_guard rfl (by simp [hx]) (fun hc => ?_) (fun hc => ?_) <;> (try simp [hx] at hc) <;> (try (exfalso; omega)) <;> (try simp [hx]))
    | (refine V_sblock ?_; simp [hx])
    | (refine V_sregion ?_; simp [hx])
    | (refine V_ret ?_; simp only [RK_seq, RK_seq_ret, RK_seq_exit, RK_blk, RK_blk_ret, RK_blk_exit, RK_loop, RK_loop_ret, RK_loop_exit, RK_done])
    | (refine V_skip ?_; simp only [RK_seq, RK_seq_ret, RK_seq_exit, RK_blk, RK_blk_ret, RK_blk_exit, RK_loop, RK_loop_ret, RK_loop_exit, RK_done])
    | (refine V_exit ?_; simp [RK_seq, RK_seq_ret, RK_seq_exit, RK_blk, RK_blk_ret, RK_blk_exit, RK_loop, RK_loop_ret, RK_loop_exit, RK_done])
    | (refine ⟨?_, by omega⟩)
    | (refine ⟨fun hc => ?_, fun hc => ?_⟩ <;> (try (exfalso; omega)))
    | (intro hc <;> (try (exfalso; omega)))
    | (refine CallV.fun_ (hsp) (by first | rfl | fail) (by first | assumption | (simp; done) | fail) (by first | (simp [hx]; done) | (simp [hx]; rfl) | fail) (by first | (simp; done) | fail) ?_ <;> (try simp [hx]))
    | (refine CallP.fun_ (hsp) (by first | rfl | fail) (by first | assumption | (simp; done) | fail) (by first | (simp [hx]; done) | (simp [hx]; rfl) | fail) (by first | (simp; done) | fail) (fun d hd => ?_); subst hd; (try simp [hx])))
  have hM : ∃ M : Nat, n.tmod 61 = (M : Int) ∧ M ≤ 60 := by
    rw [Int.tmod_eq_emod_of_nonneg hn0]
    exact ⟨(n % 61).toNat, by omega, by omega⟩
  obtain ⟨M, hMe, hM⟩ := hM
  refine V_loopO (α := { s : Nat × List Int // s.1 ≤ M ∧ s.2.length = members.length ∧ ∀ x ∈ s.2, 0 ≤ x ∧ x ≤ 1000 + s.1 }) [0, 2, 7, 8] (fun s => [(9, .u (.int .i64 s.1.2.sum)), (11, .u (.int .i64 (max 1 (maxS s.1.2 - minS s.1.2)))), (12, .u (.int .i64 s.1.1))]) (fun s => [(1, .vec 3 1 (intR s.1.2))]) 2 (fun s => M - s.1.1) ⟨(0, had), by omega, hl, fun x hx => by have := hb x hx; omega⟩ ?_ ?_
  · exact (Wk.cut rfl (by simp [hn]) (by simp [wkO, St.lp, getK_cons, getK, Ob.under, D.under, under_rowsD, under_entD, hl, pure_intR, under_intR]) (by simp [wkU, St.lp, keepE, getK_cons, getK, D.under, hl, pure_intR, under_intR]) (by simp [wkE, St.lp, keepE, getK_cons, getK, hl, pure_intR, under_intR] <;> (try (intros; simp_all; done)) <;> (try (intros; omega)) <;> (try grind)))
  rintro ⟨⟨p, now⟩, hp, hnl, hnb⟩
  simp only at hp hnl hnb
  simp [St.lp, St.only, keepE, getK_cons, getK]
  have hnne : now ≠ [] := fun h => by subst h; exact hm0 hnl.symm
  have hsb := sum_bound _ _ hnb
  have hsb2 : now.sum ≤ 13000 := by
    have : (now.length : Int) * (1000 + p) ≤ 12 * 1060 := Int.mul_le_mul (by omega) (by omega) (by omega) (by omega)
    omega
  by_cases hlt : p < M
  · have hmin0 := (hnb _ (minS_mem hnne))
    have hmax0 := (hnb _ (maxS_mem hnne))
    have hpk := nextS_pick (seed := (p : Int)) (m := p) hr hme hnl (show (0 : Int) ≤ 2 by omega) (show (2 : Int) < 3 by omega) hmin0.1
    have hnf := next_fun members now 2 p p (by omega) (by omega)
    rw [hpk.1] at hnf
    have hat := at_fun members (members.getD (pickS members now 2 p p) 0) (by omega)
    rw [idxS_get hnod hpk.2] at hat
    have hpe : pickS members now 2 p p = lst now := by simp [pickS]
    rw [hpe] at hnf hat
    have hT := lst_lt hnne
    have hgT := lst_get hnne
    have hT2 : lst now < members.length := by omega
    have hfirst : ∀ k x, now[k]? = some x → x = minS now → lst now ≤ k := fun k x h => lst_first hnne h
    have hss := stepL_sum hnne
    have hssp := stepL_spread hnne
    have hsl := stepL_len now
    have hse : now.set (lst now) (minS now + 1) = stepL now := rfl
    have hsb3 : ∀ x ∈ stepL now, 0 ≤ x ∧ x ≤ 1000 + (p + 1 : Nat) := fun x hx => by
      rcases stepL_mem hx with h | h
      · have := hnb x h; omega
      · omega
    have hsp2 := spread_fun (stepL now) (by omega) (stepL_ne hnne) (fun x hx => by have := hsb3 x hx; omega)
    have hnn : ¬ ((lst now : Nat) : Int) < 0 := by omega
    generalize members.getD (lst now) 0 = key at hnf hat
    generalize hTe : lst now = T at hT hT2 hgT hat hnn hfirst hse
    generalize hme2 : minS now = mi at hgT hfirst hse hmin0 hssp
    have hgE : ∀ h : T < now.length, now[T]'h = mi := fun h => (List.getElem?_eq_some_iff.1 hgT).2
    repeat' (first
    | (refine H_cons ?_; simp [hMe, hlt, hnl, intR_len, intR_all, hnn])
    | (refine HD2_val rfl ?_; simp [hMe, hlt, hnl, intR_len, intR_all, hnn])
    | (refine HD_cons ?_; simp [hMe, hlt, hnl, intR_len, intR_all, hnn])
    | (refine HD2_chg rfl ?_; simp [hMe, hlt, hnl, intR_len, intR_all, hnn])
    | (refine H_nil ?_; simp [hMe, hlt, hnl, intR_len, intR_all, hnn])
    | (refine ⟨by omega, ?_⟩)
    | (refine V_sseq ?_; simp [hMe, hlt, hnl, intR_len, intR_all, hnn])
    | (refine V_scond ?_; simp [hMe, hlt, hnl, intR_len, intR_all, hnn])
    | (refine HD2_nil (hC _ (by kernel_rfl)) (hk _ ?_); clear hC hk C k; simp only [RK_seq, RK_seq_ret, RK_seq_exit, RK_blk, RK_blk_ret, RK_blk_exit, RK_loop, RK_loop_ret, RK_loop_exit, RK_done])
    | (refine HD_nil ?_)
    | (refine hk _ ?_; clear hk k; simp only [RK_seq, RK_seq_ret, RK_seq_exit, RK_blk, RK_blk_ret, RK_blk_exit, RK_loop, RK_loop_ret, RK_loop_exit, RK_done])
    | (refine V_drawV rfl (by kernel_rfl) (by kernel_rfl) fun k hk => ?_; simp [hMe, hlt, hnl, intR_len, intR_all, hnn])
    | (refine V_drawN rfl (by kernel_rfl) (by kernel_rfl) (by simp [hn]) fun C k hC hk => ?_; simp [hMe, hlt, hnl, intR_len, intR_all, hnn])
    | (refine HD3_val rfl ?_; simp [hMe, hlt, hnl, intR_len, intR_all, hnn])
    | (refine HD3_put ?_; simp [hMe, hlt, hnl, intR_len, intR_all, hnn])
    | (refine HD3_chg rfl rfl ?_; simp [hMe, hlt, hnl, intR_len, intR_all, hnn])
    | (refine HD3_nil (hC _ _ (by kernel_rfl) (by kernel_rfl)) (hk _ ?_); clear hC hk C k; simp only [RK_seq, RK_seq_ret, RK_seq_exit, RK_blk, RK_blk_ret, RK_blk_exit, RK_loop, RK_loop_ret, RK_loop_exit, RK_done]; simp [St.ins, insL, putE, getK_setOb, getK_cons])
    | (refine V_drawE rfl (by kernel_rfl) (by kernel_rfl) (by simp [hn]) fun C k hC hk => ?_; simp [hMe, hlt, hnl, intR_len, intR_all, hnn])
    | (refine HD_guardU rfl (by simp [hMe, hlt, hnl, intR_len, intR_all, hnn]) ?_; simp [hMe, hlt, hnl, intR_len, intR_all, hnn])
    | (refine HD_guard rfl (by simp [hMe, hlt, hnl, intR_len, intR_all, hnn]) (fun hc => ?_) (fun hc => ?_) <;> (try simp [hMe, hlt, hnl, intR_len, intR_all, hnn] at hc) <;> (try (exfalso; omega)) <;> (try simp [hMe, hlt, hnl, intR_len, intR_all, hnn]))
    | (refine HD2_guardU rfl (by simp [hMe, hlt, hnl, intR_len, intR_all, hnn]) ?_; simp [hMe, hlt, hnl, intR_len, intR_all, hnn])
    | (refine HD2_guard rfl (by simp [hMe, hlt, hnl, intR_len, intR_all, hnn]) (fun hc => ?_) (fun hc => ?_) <;> (try simp [hMe, hlt, hnl, intR_len, intR_all, hnn] at hc) <;> (try (exfalso; omega)) <;> (try simp [hMe, hlt, hnl, intR_len, intR_all, hnn]))
    | (refine V_sblock ?_; simp [hMe, hlt, hnl, intR_len, intR_all, hnn])
    | (refine V_sregion ?_; simp [hMe, hlt, hnl, intR_len, intR_all, hnn])
    | (refine V_ret ?_; simp only [RK_seq, RK_seq_ret, RK_seq_exit, RK_blk, RK_blk_ret, RK_blk_exit, RK_loop, RK_loop_ret, RK_loop_exit, RK_done])
    | (refine V_skip ?_; simp only [RK_seq, RK_seq_ret, RK_seq_exit, RK_blk, RK_blk_ret, RK_blk_exit, RK_loop, RK_loop_ret, RK_loop_exit, RK_done])
    | (refine V_exit ?_; simp [RK_seq, RK_seq_ret, RK_seq_exit, RK_blk, RK_blk_ret, RK_blk_exit, RK_loop, RK_loop_ret, RK_loop_exit, RK_done])
    | (refine ⟨?_, by omega⟩)
    | (refine ⟨fun hc => ?_, fun hc => ?_⟩ <;> (try (exfalso; omega)))
    | (intro hc <;> (try (exfalso; omega)))
    | (refine CallV.fun_ (hnf) (by first | rfl | fail) (by first | assumption | (simp; done) | fail) (by first | (simp [hMe, hlt, hnl, intR_len, intR_all, hnn]; done) | (simp [hMe, hlt, hnl, intR_len, intR_all, hnn]; rfl) | fail) (by first | (simp; done) | fail) ?_ <;> (try simp [hMe, hlt, hnl, intR_len, intR_all, hnn]))
    | (refine CallP.fun_ (hnf) (by first | rfl | fail) (by first | assumption | (simp; done) | fail) (by first | (simp [hMe, hlt, hnl, intR_len, intR_all, hnn]; done) | (simp [hMe, hlt, hnl, intR_len, intR_all, hnn]; rfl) | fail) (by first | (simp; done) | fail) (fun d hd => ?_); subst hd; (try simp [hMe, hlt, hnl, intR_len, intR_all, hnn]))
    | (refine CallV.fun_ (hat) (by first | rfl | fail) (by first | assumption | (simp; done) | fail) (by first | (simp [hMe, hlt, hnl, intR_len, intR_all, hnn]; done) | (simp [hMe, hlt, hnl, intR_len, intR_all, hnn]; rfl) | fail) (by first | (simp; done) | fail) ?_ <;> (try simp [hMe, hlt, hnl, intR_len, intR_all, hnn]))
    | (refine CallP.fun_ (hat) (by first | rfl | fail) (by first | assumption | (simp; done) | fail) (by first | (simp [hMe, hlt, hnl, intR_len, intR_all, hnn]; done) | (simp [hMe, hlt, hnl, intR_len, intR_all, hnn]; rfl) | fail) (by first | (simp; done) | fail) (fun d hd => ?_); subst hd; (try simp [hMe, hlt, hnl, intR_len, intR_all, hnn])))
    refine V_loopO (α := { k : Nat // k ≤ now.length }) [0, 2, 7, 8, 9, 11, 12, 15] (fun k => [(16, .u (.int .i64 k.1))]) (fun k => [(1, .vec 3 1 (intR now))]) 2 (fun k => now.length - k.1) ⟨0, by omega⟩ ?_ ?_
    · exact (Wk.cut rfl (by simp [hn]) (by simp [wkO, St.lp, getK_cons, getK, Ob.under, D.under, under_rowsD, under_entD, pure_intR, under_intR]) (by simp [wkU, St.lp, keepE, getK_cons, getK, D.under, pure_intR, under_intR]) (by simp [wkE, St.lp, keepE, getK_cons, getK, pure_intR, under_intR] <;> (try (intros; simp_all; done)) <;> (try (intros; omega)) <;> (try grind)))
    rintro ⟨k, hk⟩
    simp [St.lp, St.only, keepE, getK_cons, getK]
    rcases hx : now[k]? with _ | x
    · have hge : now.length ≤ k := by simpa using hx
      obtain rfl : k = now.length := by omega
      have hng : ¬ max 1 (maxS now - mi) < maxS (stepL now) - minS (stepL now) := by omega
      repeat' (first
    | (refine H_cons ?_; simp [hnl, intR_len, intR_getE, intR_set, intR_all, hgE, hT2, hse, hsl, hng])
    | (refine HD2_val rfl ?_; simp [hnl, intR_len, intR_getE, intR_set, intR_all, hgE, hT2, hse, hsl, hng])
    | (refine HD_cons ?_; simp [hnl, intR_len, intR_getE, intR_set, intR_all, hgE, hT2, hse, hsl, hng])
    | (refine HD2_chg rfl ?_; simp [hnl, intR_len, intR_getE, intR_set, intR_all, hgE, hT2, hse, hsl, hng])
    | (refine H_nil ?_; simp [hnl, intR_len, intR_getE, intR_set, intR_all, hgE, hT2, hse, hsl, hng])
    | (refine ⟨by omega, ?_⟩)
    | (refine V_sseq ?_; simp [hnl, intR_len, intR_getE, intR_set, intR_all, hgE, hT2, hse, hsl, hng])
    | (refine V_scond ?_; simp [hnl, intR_len, intR_getE, intR_set, intR_all, hgE, hT2, hse, hsl, hng])
    | (refine HD2_nil (hC _ (by kernel_rfl)) (hk _ ?_); clear hC hk C k; simp only [RK_seq, RK_seq_ret, RK_seq_exit, RK_blk, RK_blk_ret, RK_blk_exit, RK_loop, RK_loop_ret, RK_loop_exit, RK_done])
    | (refine HD_nil ?_)
    | (refine hk _ ?_; clear hk k; simp only [RK_seq, RK_seq_ret, RK_seq_exit, RK_blk, RK_blk_ret, RK_blk_exit, RK_loop, RK_loop_ret, RK_loop_exit, RK_done])
    | (refine V_drawV rfl (by kernel_rfl) (by kernel_rfl) fun k hk => ?_; simp [hnl, intR_len, intR_getE, intR_set, intR_all, hgE, hT2, hse, hsl, hng])
    | (refine V_drawN rfl (by kernel_rfl) (by kernel_rfl) (by simp [hn]) fun C k hC hk => ?_; simp [hnl, intR_len, intR_getE, intR_set, intR_all, hgE, hT2, hse, hsl, hng])
    | (refine HD3_val rfl ?_; simp [hnl, intR_len, intR_getE, intR_set, intR_all, hgE, hT2, hse, hsl, hng])
    | (refine HD3_put ?_; simp [hnl, intR_len, intR_getE, intR_set, intR_all, hgE, hT2, hse, hsl, hng])
    | (refine HD3_chg rfl rfl ?_; simp [hnl, intR_len, intR_getE, intR_set, intR_all, hgE, hT2, hse, hsl, hng])
    | (refine HD3_nil (hC _ _ (by kernel_rfl) (by kernel_rfl)) (hk _ ?_); clear hC hk C k; simp only [RK_seq, RK_seq_ret, RK_seq_exit, RK_blk, RK_blk_ret, RK_blk_exit, RK_loop, RK_loop_ret, RK_loop_exit, RK_done]; simp [St.ins, insL, putE, getK_setOb, getK_cons])
    | (refine V_drawE rfl (by kernel_rfl) (by kernel_rfl) (by simp [hn]) fun C k hC hk => ?_; simp [hnl, intR_len, intR_getE, intR_set, intR_all, hgE, hT2, hse, hsl, hng])
    | (refine HD_guardU rfl (by simp [hnl, intR_len, intR_getE, intR_set, intR_all, hgE, hT2, hse, hsl, hng]) ?_; simp [hnl, intR_len, intR_getE, intR_set, intR_all, hgE, hT2, hse, hsl, hng])
    | (refine HD_guard rfl (by simp [hnl, intR_len, intR_getE, intR_set, intR_all, hgE, hT2, hse, hsl, hng]) (fun hc => ?_) (fun hc => ?_) <;> (try simp [hnl, intR_len, intR_getE, intR_set, intR_all, hgE, hT2, hse, hsl, hng] at hc) <;> (try (exfalso; omega)) <;> (try simp [hnl, intR_len, intR_getE, intR_set, intR_all, hgE, hT2, hse, hsl, hng]))
    | (refine HD2_guardU rfl (by simp [hnl, intR_len, intR_getE, intR_set, intR_all, hgE, hT2, hse, hsl, hng]) ?_; simp [hnl, intR_len, intR_getE, intR_set, intR_all, hgE, hT2, hse, hsl, hng])
    | (refine HD2_guard rfl (by simp [hnl, intR_len, intR_getE, intR_set, intR_all, hgE, hT2, hse, hsl, hng]) (fun hc => ?_) (fun hc => ?_) <;> (try simp [hnl, intR_len, intR_getE, intR_set, intR_all, hgE, hT2, hse, hsl, hng] at hc) <;> (try (exfalso; omega)) <;> (try simp [hnl, intR_len, intR_getE, intR_set, intR_all, hgE, hT2, hse, hsl, hng]))
    | (refine V_sblock ?_; simp [hnl, intR_len, intR_getE, intR_set, intR_all, hgE, hT2, hse, hsl, hng])
    | (refine V_sregion ?_; simp [hnl, intR_len, intR_getE, intR_set, intR_all, hgE, hT2, hse, hsl, hng])
    | (refine V_ret ?_; simp only [RK_seq, RK_seq_ret, RK_seq_exit, RK_blk, RK_blk_ret, RK_blk_exit, RK_loop, RK_loop_ret, RK_loop_exit, RK_done])
    | (refine V_skip ?_; simp only [RK_seq, RK_seq_ret, RK_seq_exit, RK_blk, RK_blk_ret, RK_blk_exit, RK_loop, RK_loop_ret, RK_loop_exit, RK_done])
    | (refine V_exit ?_; simp [RK_seq, RK_seq_ret, RK_seq_exit, RK_blk, RK_blk_ret, RK_blk_exit, RK_loop, RK_loop_ret, RK_loop_exit, RK_done])
    | (refine ⟨?_, by omega⟩)
    | (refine ⟨fun hc => ?_, fun hc => ?_⟩ <;> (try (exfalso; omega)))
    | (intro hc <;> (try (exfalso; omega)))
    | (refine CallV.fun_ (hsp2) (by first | rfl | fail) (by first | assumption | (simp; done) | fail) (by first | (simp [hnl, intR_len, intR_getE, intR_set, intR_all, hgE, hT2, hse, hsl, hng]; done) | (simp [hnl, intR_len, intR_getE, intR_set, intR_all, hgE, hT2, hse, hsl, hng]; rfl) | fail) (by first | (simp; done) | fail) ?_ <;> (try simp [hnl, intR_len, intR_getE, intR_set, intR_all, hgE, hT2, hse, hsl, hng]))
    | (refine CallP.fun_ (hsp2) (by first | rfl | fail) (by first | assumption | (simp; done) | fail) (by first | (simp [hnl, intR_len, intR_getE, intR_set, intR_all, hgE, hT2, hse, hsl, hng]; done) | (simp [hnl, intR_len, intR_getE, intR_set, intR_all, hgE, hT2, hse, hsl, hng]; rfl) | fail) (by first | (simp; done) | fail) (fun d hd => ?_); subst hd; (try simp [hnl, intR_len, intR_getE, intR_set, intR_all, hgE, hT2, hse, hsl, hng])))
      refine LoopW.next ⟨(p + 1, stepL now), by simp only; omega, by simp only; omega, hsb3⟩ (by simp; omega) ?_
      exact (Wk.cut rfl (by simp [hn]) (by simp [wkO, St.lp, getK_cons, getK, Ob.under, D.under, under_rowsD, under_entD, pure_intR, under_intR, hss, hsl]) (by simp [wkU, St.lp, keepE, getK_cons, getK, D.under, pure_intR, under_intR, hss, hsl]) (by simp [wkE, St.lp, keepE, getK_cons, getK, pure_intR, under_intR, hss, hsl] <;> (try (intros; simp_all; done)) <;> (try (intros; omega)) <;> (try grind)))
    · have hlk : k < now.length := (List.getElem?_eq_some_iff.1 hx).1
      have hlk2 : k < members.length := by omega
      have hkE : ∀ h : k < now.length, now[k]'h = x := fun h => (List.getElem?_eq_some_iff.1 hx).2
      have hxm : ¬ x < mi := by have := minS_le (List.mem_of_getElem? hx); omega
      by_cases hxe : x = mi
      · have hkT : ¬ k < T := by have := hfirst k x hx hxe; omega
        subst hxe
        repeat' (first
    | (refine H_cons ?_; simp [hnl, intR_len, intR_getE, hgE, hkE, hlk2, hT2, hkT])
    | (refine HD2_val rfl ?_; simp [hnl, intR_len, intR_getE, hgE, hkE, hlk2, hT2, hkT])
    | (refine HD_cons ?_; simp [hnl, intR_len, intR_getE, hgE, hkE, hlk2, hT2, hkT])
    | (refine HD2_chg rfl ?_; simp [hnl, intR_len, intR_getE, hgE, hkE, hlk2, hT2, hkT])
    | (refine H_nil ?_; simp [hnl, intR_len, intR_getE, hgE, hkE, hlk2, hT2, hkT])
    | (refine ⟨by omega, ?_⟩)
    | (refine V_sseq ?_; simp [hnl, intR_len, intR_getE, hgE, hkE, hlk2, hT2, hkT])
    | (refine V_scond ?_; simp [hnl, intR_len, intR_getE, hgE, hkE, hlk2, hT2, hkT])
    | (refine HD2_nil (hC _ (by kernel_rfl)) (hk _ ?_); clear hC hk C k; simp only [RK_seq, RK_seq_ret, RK_seq_exit, RK_blk, RK_blk_ret, RK_blk_exit, RK_loop, RK_loop_ret, RK_loop_exit, RK_done])
    | (refine HD_nil ?_)
    | (refine hk _ ?_; clear hk k; simp only [RK_seq, RK_seq_ret, RK_seq_exit, RK_blk, RK_blk_ret, RK_blk_exit, RK_loop, RK_loop_ret, RK_loop_exit, RK_done])
    | (refine V_drawV rfl (by kernel_rfl) (by kernel_rfl) fun k hk => ?_; simp [hnl, intR_len, intR_getE, hgE, hkE, hlk2, hT2, hkT])
    | (refine V_drawN rfl (by kernel_rfl) (by kernel_rfl) (by simp [hn]) fun C k hC hk => ?_; simp [hnl, intR_len, intR_getE, hgE, hkE, hlk2, hT2, hkT])
    | (refine HD3_val rfl ?_; simp [hnl, intR_len, intR_getE, hgE, hkE, hlk2, hT2, hkT])
    | (refine HD3_put ?_; simp [hnl, intR_len, intR_getE, hgE, hkE, hlk2, hT2, hkT])
    | (refine HD3_chg rfl rfl ?_; simp [hnl, intR_len, intR_getE, hgE, hkE, hlk2, hT2, hkT])
    | (refine HD3_nil (hC _ _ (by kernel_rfl) (by kernel_rfl)) (hk _ ?_); clear hC hk C k; simp only [RK_seq, RK_seq_ret, RK_seq_exit, RK_blk, RK_blk_ret, RK_blk_exit, RK_loop, RK_loop_ret, RK_loop_exit, RK_done]; simp [St.ins, insL, putE, getK_setOb, getK_cons])
    | (refine V_drawE rfl (by kernel_rfl) (by kernel_rfl) (by simp [hn]) fun C k hC hk => ?_; simp [hnl, intR_len, intR_getE, hgE, hkE, hlk2, hT2, hkT])
    | (refine HD_guardU rfl (by simp [hnl, intR_len, intR_getE, hgE, hkE, hlk2, hT2, hkT]) ?_; simp [hnl, intR_len, intR_getE, hgE, hkE, hlk2, hT2, hkT])
    | (refine HD_guard rfl (by simp [hnl, intR_len, intR_getE, hgE, hkE, hlk2, hT2, hkT]) (fun hc => ?_) (fun hc => ?_) <;> (try simp [hnl, intR_len, intR_getE, hgE, hkE, hlk2, hT2, hkT] at hc) <;> (try (exfalso; omega)) <;> (try simp [hnl, intR_len, intR_getE, hgE, hkE, hlk2, hT2, hkT]))
    | (refine HD2_guardU rfl (by simp [hnl, intR_len, intR_getE, hgE, hkE, hlk2, hT2, hkT]) ?_; simp [hnl, intR_len, intR_getE, hgE, hkE, hlk2, hT2, hkT])
    | (refine HD2_guard rfl (by simp [hnl, intR_len, intR_getE, hgE, hkE, hlk2, hT2, hkT]) (fun hc => ?_) (fun hc => ?_) <;> (try simp [hnl, intR_len, intR_getE, hgE, hkE, hlk2, hT2, hkT] at hc) <;> (try (exfalso; omega)) <;> (try simp [hnl, intR_len, intR_getE, hgE, hkE, hlk2, hT2, hkT]))
    | (refine V_sblock ?_; simp [hnl, intR_len, intR_getE, hgE, hkE, hlk2, hT2, hkT])
    | (refine V_sregion ?_; simp [hnl, intR_len, intR_getE, hgE, hkE, hlk2, hT2, hkT])
    | (refine V_ret ?_; simp only [RK_seq, RK_seq_ret, RK_seq_exit, RK_blk, RK_blk_ret, RK_blk_exit, RK_loop, RK_loop_ret, RK_loop_exit, RK_done])
    | (refine V_skip ?_; simp only [RK_seq, RK_seq_ret, RK_seq_exit, RK_blk, RK_blk_ret, RK_blk_exit, RK_loop, RK_loop_ret, RK_loop_exit, RK_done])
    | (refine V_exit ?_; simp [RK_seq, RK_seq_ret, RK_seq_exit, RK_blk, RK_blk_ret, RK_blk_exit, RK_loop, RK_loop_ret, RK_loop_exit, RK_done])
    | (refine ⟨?_, by omega⟩)
    | (refine ⟨fun hc => ?_, fun hc => ?_⟩ <;> (try (exfalso; omega)))
    | (intro hc <;> (try (exfalso; omega))))
        refine LoopW.next ⟨k + 1, by omega⟩ (by simp; omega) ?_
        exact (Wk.cut rfl (by simp [hn]) (by simp [wkO, St.lp, getK_cons, getK, Ob.under, D.under, under_rowsD, under_entD, pure_intR, under_intR]) (by simp [wkU, St.lp, keepE, getK_cons, getK, D.under, pure_intR, under_intR]) (by simp [wkE, St.lp, keepE, getK_cons, getK, pure_intR, under_intR] <;> (try (intros; simp_all; done)) <;> (try (intros; omega)) <;> (try grind)))
      · repeat' (first
    | (refine H_cons ?_; simp [hnl, intR_len, intR_getE, hgE, hkE, hlk2, hT2, hxm, hxe])
    | (refine HD2_val rfl ?_; simp [hnl, intR_len, intR_getE, hgE, hkE, hlk2, hT2, hxm, hxe])
    | (refine HD_cons ?_; simp [hnl, intR_len, intR_getE, hgE, hkE, hlk2, hT2, hxm, hxe])
    | (refine HD2_chg rfl ?_; simp [hnl, intR_len, intR_getE, hgE, hkE, hlk2, hT2, hxm, hxe])
    | (refine H_nil ?_; simp [hnl, intR_len, intR_getE, hgE, hkE, hlk2, hT2, hxm, hxe])
    | (refine ⟨by omega, ?_⟩)
    | (refine V_sseq ?_; simp [hnl, intR_len, intR_getE, hgE, hkE, hlk2, hT2, hxm, hxe])
    | (refine V_scond ?_; simp [hnl, intR_len, intR_getE, hgE, hkE, hlk2, hT2, hxm, hxe])
    | (refine HD2_nil (hC _ (by kernel_rfl)) (hk _ ?_); clear hC hk C k; simp only [RK_seq, RK_seq_ret, RK_seq_exit, RK_blk, RK_blk_ret, RK_blk_exit, RK_loop, RK_loop_ret, RK_loop_exit, RK_done])
    | (refine HD_nil ?_)
    | (refine hk _ ?_; clear hk k; simp only [RK_seq, RK_seq_ret, RK_seq_exit, RK_blk, RK_blk_ret, RK_blk_exit, RK_loop, RK_loop_ret, RK_loop_exit, RK_done])
    | (refine V_drawV rfl (by kernel_rfl) (by kernel_rfl) fun k hk => ?_; simp [hnl, intR_len, intR_getE, hgE, hkE, hlk2, hT2, hxm, hxe])
    | (refine V_drawN rfl (by kernel_rfl) (by kernel_rfl) (by simp [hn]) fun C k hC hk => ?_; simp [hnl, intR_len, intR_getE, hgE, hkE, hlk2, hT2, hxm, hxe])
    | (refine HD3_val rfl ?_; simp [hnl, intR_len, intR_getE, hgE, hkE, hlk2, hT2, hxm, hxe])
    | (refine HD3_put ?_; simp [hnl, intR_len, intR_getE, hgE, hkE, hlk2, hT2, hxm, hxe])
    | (refine HD3_chg rfl rfl ?_; simp [hnl, intR_len, intR_getE, hgE, hkE, hlk2, hT2, hxm, hxe])
    | (refine HD3_nil (hC _ _ (by kernel_rfl) (by kernel_rfl)) (hk _ ?_); clear hC hk C k; simp only [RK_seq, RK_seq_ret, RK_seq_exit, RK_blk, RK_blk_ret, RK_blk_exit, RK_loop, RK_loop_ret, RK_loop_exit, RK_done]; simp [St.ins, insL, putE, getK_setOb, getK_cons])
    | (refine V_drawE rfl (by kernel_rfl) (by kernel_rfl) (by simp [hn]) fun C k hC hk => ?_; simp [hnl, intR_len, intR_getE, hgE, hkE, hlk2, hT2, hxm, hxe])
    | (refine HD_guardU rfl (by simp [hnl, intR_len, intR_getE, hgE, hkE, hlk2, hT2, hxm, hxe]) ?_; simp [hnl, intR_len, intR_getE, hgE, hkE, hlk2, hT2, hxm, hxe])
    | (refine HD_guard rfl (by simp [hnl, intR_len, intR_getE, hgE, hkE, hlk2, hT2, hxm, hxe]) (fun hc => ?_) (fun hc => ?_) <;> (try simp [hnl, intR_len, intR_getE, hgE, hkE, hlk2, hT2, hxm, hxe] at hc) <;> (try (exfalso; omega)) <;> (try simp [hnl, intR_len, intR_getE, hgE, hkE, hlk2, hT2, hxm, hxe]))
    | (refine HD2_guardU rfl (by simp [hnl, intR_len, intR_getE, hgE, hkE, hlk2, hT2, hxm, hxe]) ?_; simp [hnl, intR_len, intR_getE, hgE, hkE, hlk2, hT2, hxm, hxe])
    | (refine HD2_guard rfl (by simp [hnl, intR_len, intR_getE, hgE, hkE, hlk2, hT2, hxm, hxe]) (fun hc => ?_) (fun hc => ?_) <;> (try simp [hnl, intR_len, intR_getE, hgE, hkE, hlk2, hT2, hxm, hxe] at hc) <;> (try (exfalso; omega)) <;> (try simp [hnl, intR_len, intR_getE, hgE, hkE, hlk2, hT2, hxm, hxe]))
    | (refine V_sblock ?_; simp [hnl, intR_len, intR_getE, hgE, hkE, hlk2, hT2, hxm, hxe])
    | (refine V_sregion ?_; simp [hnl, intR_len, intR_getE, hgE, hkE, hlk2, hT2, hxm, hxe])
    | (refine V_ret ?_; simp only [RK_seq, RK_seq_ret, RK_seq_exit, RK_blk, RK_blk_ret, RK_blk_exit, RK_loop, RK_loop_ret, RK_loop_exit, RK_done])
    | (refine V_skip ?_; simp only [RK_seq, RK_seq_ret, RK_seq_exit, RK_blk, RK_blk_ret, RK_blk_exit, RK_loop, RK_loop_ret, RK_loop_exit, RK_done])
    | (refine V_exit ?_; simp [RK_seq, RK_seq_ret, RK_seq_exit, RK_blk, RK_blk_ret, RK_blk_exit, RK_loop, RK_loop_ret, RK_loop_exit, RK_done])
    | (refine ⟨?_, by omega⟩)
    | (refine ⟨fun hc => ?_, fun hc => ?_⟩ <;> (try (exfalso; omega)))
    | (intro hc <;> (try (exfalso; omega))))
        refine LoopW.next ⟨k + 1, by omega⟩ (by simp; omega) ?_
        exact (Wk.cut rfl (by simp [hn]) (by simp [wkO, St.lp, getK_cons, getK, Ob.under, D.under, under_rowsD, under_entD, pure_intR, under_intR]) (by simp [wkU, St.lp, keepE, getK_cons, getK, D.under, pure_intR, under_intR]) (by simp [wkE, St.lp, keepE, getK_cons, getK, pure_intR, under_intR] <;> (try (intros; simp_all; done)) <;> (try (intros; omega)) <;> (try grind)))
  obtain rfl : p = M := by omega
  repeat' (first
    | (refine H_cons ?_; simp [hMe, hnl, intR_len])
    | (refine HD2_val rfl ?_; simp [hMe, hnl, intR_len])
    | (refine HD_cons ?_; simp [hMe, hnl, intR_len])
    | (refine HD2_chg rfl ?_; simp [hMe, hnl, intR_len])
    | (refine H_nil ?_; simp [hMe, hnl, intR_len])
    | (refine ⟨by omega, ?_⟩)
    | (refine V_sseq ?_; simp [hMe, hnl, intR_len])
    | (refine V_scond ?_; simp [hMe, hnl, intR_len])
    | (refine HD2_nil (hC _ (by kernel_rfl)) (hk _ ?_); clear hC hk C k; simp only [RK_seq, RK_seq_ret, RK_seq_exit, RK_blk, RK_blk_ret, RK_blk_exit, RK_loop, RK_loop_ret, RK_loop_exit, RK_done])
    | (refine HD_nil ?_)
    | (refine hk _ ?_; clear hk k; simp only [RK_seq, RK_seq_ret, RK_seq_exit, RK_blk, RK_blk_ret, RK_blk_exit, RK_loop, RK_loop_ret, RK_loop_exit, RK_done])
    | (refine V_drawV rfl (by kernel_rfl) (by kernel_rfl) fun k hk => ?_; simp [hMe, hnl, intR_len])
    | (refine V_drawN rfl (by kernel_rfl) (by kernel_rfl) (by simp [hn]) fun C k hC hk => ?_; simp [hMe, hnl, intR_len])
    | (refine HD3_val rfl ?_; simp [hMe, hnl, intR_len])
    | (refine HD3_put ?_; simp [hMe, hnl, intR_len])
    | (refine HD3_chg rfl rfl ?_; simp [hMe, hnl, intR_len])
    | (refine HD3_nil (hC _ _ (by kernel_rfl) (by kernel_rfl)) (hk _ ?_); clear hC hk C k; simp only [RK_seq, RK_seq_ret, RK_seq_exit, RK_blk, RK_blk_ret, RK_blk_exit, RK_loop, RK_loop_ret, RK_loop_exit, RK_done]; simp [St.ins, insL, putE, getK_setOb, getK_cons])
    | (refine V_drawE rfl (by kernel_rfl) (by kernel_rfl) (by simp [hn]) fun C k hC hk => ?_; simp [hMe, hnl, intR_len])
    | (refine HD_guardU rfl (by simp [hMe, hnl, intR_len]) ?_; simp [hMe, hnl, intR_len])
    | (refine HD_guard rfl (by simp [hMe, hnl, intR_len]) (fun hc => ?_) (fun hc => ?_) <;> (try simp [hMe, hnl, intR_len] at hc) <;> (try (exfalso; omega)) <;> (try simp [hMe, hnl, intR_len]))
    | (refine HD2_guardU rfl (by simp [hMe, hnl, intR_len]) ?_; simp [hMe, hnl, intR_len])
    | (refine HD2_guard rfl (by simp [hMe, hnl, intR_len]) (fun hc => ?_) (fun hc => ?_) <;> (try simp [hMe, hnl, intR_len] at hc) <;> (try (exfalso; omega)) <;> (try simp [hMe, hnl, intR_len]))
    | (refine V_sblock ?_; simp [hMe, hnl, intR_len])
    | (refine V_sregion ?_; simp [hMe, hnl, intR_len])
    | (refine V_ret ?_; simp only [RK_seq, RK_seq_ret, RK_seq_exit, RK_blk, RK_blk_ret, RK_blk_exit, RK_loop, RK_loop_ret, RK_loop_exit, RK_done])
    | (refine V_skip ?_; simp only [RK_seq, RK_seq_ret, RK_seq_exit, RK_blk, RK_blk_ret, RK_blk_exit, RK_loop, RK_loop_ret, RK_loop_exit, RK_done])
    | (refine V_exit ?_; simp [RK_seq, RK_seq_ret, RK_seq_exit, RK_blk, RK_blk_ret, RK_blk_exit, RK_loop, RK_loop_ret, RK_loop_exit, RK_done])
    | (refine ⟨?_, by omega⟩)
    | (refine ⟨fun hc => ?_, fun hc => ?_⟩ <;> (try (exfalso; omega)))
    | (intro hc <;> (try (exfalso; omega))))
  refine V_loopO (α := { k : Nat // k ≤ now.length }) [7, 8] (fun k => [(9, .u (.int .i64 (now.sum - (now.take k.1).sum))), (17, .u (.int .i64 k.1))]) (fun k => [(1, .vec 3 1 (intR now))]) 2 (fun k => now.length - k.1) ⟨0, by omega⟩ ?_ ?_
  · exact (Wk.cut rfl (by simp [hn]) (by simp [wkO, St.lp, getK_cons, getK, Ob.under, D.under, under_rowsD, under_entD, pure_intR, under_intR]) (by simp [wkU, St.lp, keepE, getK_cons, getK, D.under, pure_intR, under_intR]) (by simp [wkE, St.lp, keepE, getK_cons, getK, pure_intR, under_intR] <;> (try (intros; simp_all; done)) <;> (try (intros; omega)) <;> (try grind)))
  rintro ⟨k, hk⟩
  simp [St.lp, St.only, keepE, getK_cons, getK]
  have htb := sum_bound (now.take k) (1000 + p) (fun x hx => hnb x (List.mem_of_mem_take hx))
  have htb2 : (now.take k).sum ≤ 13000 := by
    have hlk : (now.take k).length ≤ 12 := by rw [List.length_take]; omega
    have : ((now.take k).length : Int) * (1000 + p) ≤ 12 * 1060 := Int.mul_le_mul (by omega) (by omega) (by omega) (by omega)
    omega
  rcases hx : now[k]? with _ | x
  · have hge : now.length ≤ k := by simpa using hx
    obtain rfl : k = now.length := by omega
    have hz : now.sum - (now.take now.length).sum = 0 := by rw [List.take_length]; omega
    repeat' (first
    | (refine H_cons ?_; simp [hnl, intR_len, hz])
    | (refine HD2_val rfl ?_; simp [hnl, intR_len, hz])
    | (refine HD_cons ?_; simp [hnl, intR_len, hz])
    | (refine HD2_chg rfl ?_; simp [hnl, intR_len, hz])
    | (refine H_nil ?_; simp [hnl, intR_len, hz])
    | (refine ⟨by omega, ?_⟩)
    | (refine V_sseq ?_; simp [hnl, intR_len, hz])
    | (refine V_scond ?_; simp [hnl, intR_len, hz])
    | (refine HD2_nil (hC _ (by kernel_rfl)) (hk _ ?_); clear hC hk C k; simp only [RK_seq, RK_seq_ret, RK_seq_exit, RK_blk, RK_blk_ret, RK_blk_exit, RK_loop, RK_loop_ret, RK_loop_exit, RK_done])
    | (refine HD_nil ?_)
    | (refine hk _ ?_; clear hk k; simp only [RK_seq, RK_seq_ret, RK_seq_exit, RK_blk, RK_blk_ret, RK_blk_exit, RK_loop, RK_loop_ret, RK_loop_exit, RK_done])
    | (refine V_drawV rfl (by kernel_rfl) (by kernel_rfl) fun k hk => ?_; simp [hnl, intR_len, hz])
    | (refine V_drawN rfl (by kernel_rfl) (by kernel_rfl) (by simp [hn]) fun C k hC hk => ?_; simp [hnl, intR_len, hz])
    | (refine HD3_val rfl ?_; simp [hnl, intR_len, hz])
    | (refine HD3_put ?_; simp [hnl, intR_len, hz])
    | (refine HD3_chg rfl rfl ?_; simp [hnl, intR_len, hz])
    | (refine HD3_nil (hC _ _ (by kernel_rfl) (by kernel_rfl)) (hk _ ?_); clear hC hk C k; simp only [RK_seq, RK_seq_ret, RK_seq_exit, RK_blk, RK_blk_ret, RK_blk_exit, RK_loop, RK_loop_ret, RK_loop_exit, RK_done]; simp [St.ins, insL, putE, getK_setOb, getK_cons])
    | (refine V_drawE rfl (by kernel_rfl) (by kernel_rfl) (by simp [hn]) fun C k hC hk => ?_; simp [hnl, intR_len, hz])
    | (refine HD_guardU rfl (by simp [hnl, intR_len, hz]) ?_; simp [hnl, intR_len, hz])
    | (refine HD_guard rfl (by simp [hnl, intR_len, hz]) (fun hc => ?_) (fun hc => ?_) <;> (try simp [hnl, intR_len, hz] at hc) <;> (try (exfalso; omega)) <;> (try simp [hnl, intR_len, hz]))
    | (refine HD2_guardU rfl (by simp [hnl, intR_len, hz]) ?_; simp [hnl, intR_len, hz])
    | (refine HD2_guard rfl (by simp [hnl, intR_len, hz]) (fun hc => ?_) (fun hc => ?_) <;> (try simp [hnl, intR_len, hz] at hc) <;> (try (exfalso; omega)) <;> (try simp [hnl, intR_len, hz]))
    | (refine V_sblock ?_; simp [hnl, intR_len, hz])
    | (refine V_sregion ?_; simp [hnl, intR_len, hz])
    | (refine V_ret ?_; simp only [RK_seq, RK_seq_ret, RK_seq_exit, RK_blk, RK_blk_ret, RK_blk_exit, RK_loop, RK_loop_ret, RK_loop_exit, RK_done])
    | (refine V_skip ?_; simp only [RK_seq, RK_seq_ret, RK_seq_exit, RK_blk, RK_blk_ret, RK_blk_exit, RK_loop, RK_loop_ret, RK_loop_exit, RK_done])
    | (refine V_exit ?_; simp [RK_seq, RK_seq_ret, RK_seq_exit, RK_blk, RK_blk_ret, RK_blk_exit, RK_loop, RK_loop_ret, RK_loop_exit, RK_done])
    | (refine ⟨?_, by omega⟩)
    | (refine ⟨fun hc => ?_, fun hc => ?_⟩ <;> (try (exfalso; omega)))
    | (intro hc <;> (try (exfalso; omega))))
    all_goals
      (refine EndOK.val (.inr rfl) ?_; simp [resD, oneOrTup, pureD, Try.results6])
  · have hlk : k < now.length := (List.getElem?_eq_some_iff.1 hx).1
    have hlk2 : k < members.length := by omega
    have hkE : ∀ h : k < now.length, now[k]'h = x := fun h => (List.getElem?_eq_some_iff.1 hx).2
    have hsn := sum_take_succ hx
    have hxb := hnb x (List.mem_of_getElem? hx)
    have hse : now.sum - (now.take k).sum - x = now.sum - (now.take (k + 1)).sum := by rw [hsn]; omega
    repeat' (first
    | (refine H_cons ?_; simp [hnl, intR_len, intR_getE, hkE, hlk2])
    | (refine HD2_val rfl ?_; simp [hnl, intR_len, intR_getE, hkE, hlk2])
    | (refine HD_cons ?_; simp [hnl, intR_len, intR_getE, hkE, hlk2])
    | (refine HD2_chg rfl ?_; simp [hnl, intR_len, intR_getE, hkE, hlk2])
    | (refine H_nil ?_; simp [hnl, intR_len, intR_getE, hkE, hlk2])
    | (refine ⟨by omega, ?_⟩)
    | (refine V_sseq ?_; simp [hnl, intR_len, intR_getE, hkE, hlk2])
    | (refine V_scond ?_; simp [hnl, intR_len, intR_getE, hkE, hlk2])
    | (refine HD2_nil (hC _ (by kernel_rfl)) (hk _ ?_); clear hC hk C k; simp only [RK_seq, RK_seq_ret, RK_seq_exit, RK_blk, RK_blk_ret, RK_blk_exit, RK_loop, RK_loop_ret, RK_loop_exit, RK_done])
    | (refine HD_nil ?_)
    | (refine hk _ ?_; clear hk k; simp only [RK_seq, RK_seq_ret, RK_seq_exit, RK_blk, RK_blk_ret, RK_blk_exit, RK_loop, RK_loop_ret, RK_loop_exit, RK_done])
    | (refine V_drawV rfl (by kernel_rfl) (by kernel_rfl) fun k hk => ?_; simp [hnl, intR_len, intR_getE, hkE, hlk2])
    | (refine V_drawN rfl (by kernel_rfl) (by kernel_rfl) (by simp [hn]) fun C k hC hk => ?_; simp [hnl, intR_len, intR_getE, hkE, hlk2])
    | (refine HD3_val rfl ?_; simp [hnl, intR_len, intR_getE, hkE, hlk2])
    | (refine HD3_put ?_; simp [hnl, intR_len, intR_getE, hkE, hlk2])
    | (refine HD3_chg rfl rfl ?_; simp [hnl, intR_len, intR_getE, hkE, hlk2])
    | (refine HD3_nil (hC _ _ (by kernel_rfl) (by kernel_rfl)) (hk _ ?_); clear hC hk C k; simp only [RK_seq, RK_seq_ret, RK_seq_exit, RK_blk, RK_blk_ret, RK_blk_exit, RK_loop, RK_loop_ret, RK_loop_exit, RK_done]; simp [St.ins, insL, putE, getK_setOb, getK_cons])
    | (refine V_drawE rfl (by kernel_rfl) (by kernel_rfl) (by simp [hn]) fun C k hC hk => ?_; simp [hnl, intR_len, intR_getE, hkE, hlk2])
    | (refine HD_guardU rfl (by simp [hnl, intR_len, intR_getE, hkE, hlk2]) ?_; simp [hnl, intR_len, intR_getE, hkE, hlk2])
    | (refine HD_guard rfl (by simp [hnl, intR_len, intR_getE, hkE, hlk2]) (fun hc => ?_) (fun hc => ?_) <;> (try simp [hnl, intR_len, intR_getE, hkE, hlk2] at hc) <;> (try (exfalso; omega)) <;> (try simp [hnl, intR_len, intR_getE, hkE, hlk2]))
    | (refine HD2_guardU rfl (by simp [hnl, intR_len, intR_getE, hkE, hlk2]) ?_; simp [hnl, intR_len, intR_getE, hkE, hlk2])
    | (refine HD2_guard rfl (by simp [hnl, intR_len, intR_getE, hkE, hlk2]) (fun hc => ?_) (fun hc => ?_) <;> (try simp [hnl, intR_len, intR_getE, hkE, hlk2] at hc) <;> (try (exfalso; omega)) <;> (try simp [hnl, intR_len, intR_getE, hkE, hlk2]))
    | (refine V_sblock ?_; simp [hnl, intR_len, intR_getE, hkE, hlk2])
    | (refine V_sregion ?_; simp [hnl, intR_len, intR_getE, hkE, hlk2])
    | (refine V_ret ?_; simp only [RK_seq, RK_seq_ret, RK_seq_exit, RK_blk, RK_blk_ret, RK_blk_exit, RK_loop, RK_loop_ret, RK_loop_exit, RK_done])
    | (refine V_skip ?_; simp only [RK_seq, RK_seq_ret, RK_seq_exit, RK_blk, RK_blk_ret, RK_blk_exit, RK_loop, RK_loop_ret, RK_loop_exit, RK_done])
    | (refine V_exit ?_; simp [RK_seq, RK_seq_ret, RK_seq_exit, RK_blk, RK_blk_ret, RK_blk_exit, RK_loop, RK_loop_ret, RK_loop_exit, RK_done])
    | (refine ⟨?_, by omega⟩)
    | (refine ⟨fun hc => ?_, fun hc => ?_⟩ <;> (try (exfalso; omega)))
    | (intro hc <;> (try (exfalso; omega))))
    refine LoopW.next ⟨k + 1, by omega⟩ (by simp; omega) ?_
    exact (Wk.cut rfl (by simp [hn]) (by simp [wkO, St.lp, getK_cons, getK, Ob.under, D.under, under_rowsD, under_entD, pure_intR, under_intR, hse]) (by simp [wkU, St.lp, keepE, getK_cons, getK, D.under, pure_intR, under_intR, hse]) (by simp [wkE, St.lp, keepE, getK_cons, getK, pure_intR, under_intR, hse] <;> (try (intros; simp_all; done)) <;> (try (intros; omega)) <;> (try grind)))
end Go.Proofs.Ytmebfcehkfaiaaa
