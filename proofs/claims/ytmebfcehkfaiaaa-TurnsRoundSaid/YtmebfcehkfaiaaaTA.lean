/- Layer 23: the law on rounds: the walk. -/
import Derived.Test.YtmebfcehkfaiaaaTo
set_option linter.all false
set_option maxRecDepth 100000
set_option maxHeartbeats 8000000
set_option linter.all false
namespace Go.Proofs.Ytmebfcehkfaiaaa
open Go Go.VL
attribute [local simp] hcons hstep evPure opd uOf putOK St.put St.at getK binD binI binS binB nilD aggD eqUs cmpK lookD lookR rangeD nextD entryD keyD valU keyU lookK mkV entD_nil lookK_entD updK_entD1 updK_entD2 updK_entD3 allUE allUE_entD makeMapD mapUpdD mapEff updK valM Key.kk shiftI arith unD convD pickD loadD cellsAt fieldAddrD fieldD indexAddrD indexD sliceD cutD lenD minmaxD nilCheckD buildD fillD cellsD isOne ones setAll mkAgg allU allocD boxD storeD St.add buildSliceD appendD rowsOf makeD setOb getK_setOb getK_del getK_cons stripL strip guardTmp entry chunks zcells valD argsV argsW argW argU1 argU0 argsU0 argsU1 calleeOf scalarD scalarU delAll effD St.effS RK_seq RK_seq_ret RK_seq_exit RK_blk RK_blk_ret RK_blk_exit RK_loop RK_loop_ret RK_loop_exit RK_done vs_seq vs_block vs_skip vs_label vs_exit vs_ret vs_cond vs_region vs_loop vs_draw vs_range vs_scope applyW mkD rdIds lentIds callOf calleeOf freeOp D.ids Op.operands Call.operands isEffOp IntKind.bits allU2 allU2_append List.take_of_length_le List.range_succ
attribute [local irreducible] V G H HD HD2 RunK Eff CallP CallV EndOK Fun Ret FinOK LoopI LoopW EndW
theorem round_fun (members : List Int) (kind seed first each : Int) : Fun Try.prog 4 [.u (ints members), .u (.int .i64 kind), .u (.int .i64 seed), .u (.int .i64 first), .u (.int .i64 each)] (· = .u (.bool true)) := by
  have h0 := small_fun
  have h1 := few_fun members
  by_cases hm : members.length ≤ 70
  case neg =>
    have hm2 : ¬ (members.length : Int) ≤ 70 := by omega
    (refine Fun.of_body Try.func4 rfl (by simp) fun Γ hn => ?_); simp only [entry, List.zipIdx_cons, List.zipIdx_nil, List.map_cons, List.map_nil, Nat.zero_add, Try.ntmps4]
    repeat' (first
    | (refine H_cons ?_; simp [hm2])
    | (refine HD2_val rfl ?_; simp [hm2])
    | (refine HD_cons ?_; simp [hm2])
    | (refine HD2_chg rfl ?_; simp [hm2])
    | (refine H_nil ?_; simp [hm2])
    | (refine ⟨by omega, ?_⟩)
    | (refine V_sseq ?_; simp [hm2])
    | (refine V_scond ?_; simp [hm2])
    | (refine HD2_nil (hC _ (by kernel_rfl)) (hk _ ?_); clear hC hk C k; simp only [RK_seq, RK_seq_ret, RK_seq_exit, RK_blk, RK_blk_ret, RK_blk_exit, RK_loop, RK_loop_ret, RK_loop_exit, RK_done])
    | (refine HD_nil ?_)
    | (refine hk _ ?_; clear hk k; simp only [RK_seq, RK_seq_ret, RK_seq_exit, RK_blk, RK_blk_ret, RK_blk_exit, RK_loop, RK_loop_ret, RK_loop_exit, RK_done])
    | (refine V_drawV rfl (by kernel_rfl) (by kernel_rfl) fun k hk => ?_; simp [hm2])
    | (refine V_drawN rfl (by kernel_rfl) (by kernel_rfl) (by simp [hn]) fun C k hC hk => ?_; simp [hm2])
    | (refine HD3_val rfl ?_; simp [hm2])
    | (refine HD3_put ?_; simp [hm2])
    | (refine HD3_chg rfl rfl ?_; simp [hm2])
    | (refine HD3_nil (hC _ _ (by kernel_rfl) (by kernel_rfl)) (hk _ ?_); clear hC hk C k; simp only [RK_seq, RK_seq_ret, RK_seq_exit, RK_blk, RK_blk_ret, RK_blk_exit, RK_loop, RK_loop_ret, RK_loop_exit, RK_done]; simp [St.ins, insL, putE, getK_setOb, getK_cons])
    | (refine V_drawE rfl (by kernel_rfl) (by kernel_rfl) (by simp [hn]) fun C k hC hk => ?_; simp [hm2])
    | (refine HD_guardU rfl (by simp [hm2]) ?_; simp [hm2])
    | (refine HD_guard rfl (by simp [hm2]) (fun hc => ?_) (fun hc => ?_) <;> (try simp [hm2] at hc) <;> (try (exfalso; omega)) <;> (try simp [hm2]))
    | (refine HD2_guardU rfl (by simp [hm2]) ?_; simp [hm2])
    | (refine HD2_guard rfl (by simp [hm2]) (fun hc => ?_) (fun hc => ?_) <;> (try simp [hm2] at hc) <;> (try (exfalso; omega)) <;> (try simp [hm2]))
    | (refine V_sblock ?_; simp [hm2])
    | (refine V_sregion ?_; simp [hm2])
    | (refine V_ret ?_; simp only [RK_seq, RK_seq_ret, RK_seq_exit, RK_blk, RK_blk_ret, RK_blk_exit, RK_loop, RK_loop_ret, RK_loop_exit, RK_done])
    | (refine V_skip ?_; simp only [RK_seq, RK_seq_ret, RK_seq_exit, RK_blk, RK_blk_ret, RK_blk_exit, RK_loop, RK_loop_ret, RK_loop_exit, RK_done])
    | (refine V_exit ?_; simp [RK_seq, RK_seq_ret, RK_seq_exit, RK_blk, RK_blk_ret, RK_blk_exit, RK_loop, RK_loop_ret, RK_loop_exit, RK_done])
    | (refine ⟨?_, by omega⟩)
    | (refine ⟨fun hc => ?_, fun hc => ?_⟩ <;> (try (exfalso; omega)))
    | (intro hc <;> (try (exfalso; omega)))
    | (refine CallV.fun_ (h0) (by first | rfl | fail) (by first | assumption | (simp; done) | fail) (by first | (simp [hm2]; done) | (simp [hm2]; rfl) | fail) (by first | (simp; done) | fail) ?_ <;> (try simp [hm2]))
    | (refine CallP.fun_ (h0) (by first | rfl | fail) (by first | assumption | (simp; done) | fail) (by first | (simp [hm2]; done) | (simp [hm2]; rfl) | fail) (by first | (simp; done) | fail) (fun d hd => ?_); subst hd; (try simp [hm2]))
    | (refine CallV.fun_ (h1) (by first | rfl | fail) (by first | assumption | (simp; done) | fail) (by first | (simp [hm2]; done) | (simp [hm2]; rfl) | fail) (by first | (simp; done) | fail) ?_ <;> (try simp [hm2]))
    | (refine CallP.fun_ (h1) (by first | rfl | fail) (by first | assumption | (simp; done) | fail) (by first | (simp [hm2]; done) | (simp [hm2]; rfl) | fail) (by first | (simp; done) | fail) (fun d hd => ?_); subst hd; (try simp [hm2])))
    all_goals
      (refine EndOK.val (.inr rfl) ?_; simp [resD, oneOrTup, pureD, Try.results4])
  have hm2 : (members.length : Int) ≤ 70 := by omega
  have h2 := right_fun members (by omega)
  by_cases hr : rightS members = true
  case neg =>
    rw [show rightS members = false by simpa using hr] at h2
    (refine Fun.of_body Try.func4 rfl (by simp) fun Γ hn => ?_); simp only [entry, List.zipIdx_cons, List.zipIdx_nil, List.map_cons, List.map_nil, Nat.zero_add, Try.ntmps4]
    repeat' (first
    | (refine H_cons ?_; simp [hm2])
    | (refine HD2_val rfl ?_; simp [hm2])
    | (refine HD_cons ?_; simp [hm2])
    | (refine HD2_chg rfl ?_; simp [hm2])
    | (refine H_nil ?_; simp [hm2])
    | (refine ⟨by omega, ?_⟩)
    | (refine V_sseq ?_; simp [hm2])
    | (refine V_scond ?_; simp [hm2])
    | (refine HD2_nil (hC _ (by kernel_rfl)) (hk _ ?_); clear hC hk C k; simp only [RK_seq, RK_seq_ret, RK_seq_exit, RK_blk, RK_blk_ret, RK_blk_exit, RK_loop, RK_loop_ret, RK_loop_exit, RK_done])
    | (refine HD_nil ?_)
    | (refine hk _ ?_; clear hk k; simp only [RK_seq, RK_seq_ret, RK_seq_exit, RK_blk, RK_blk_ret, RK_blk_exit, RK_loop, RK_loop_ret, RK_loop_exit, RK_done])
    | (refine V_drawV rfl (by kernel_rfl) (by kernel_rfl) fun k hk => ?_; simp [hm2])
    | (refine V_drawN rfl (by kernel_rfl) (by kernel_rfl) (by simp [hn]) fun C k hC hk => ?_; simp [hm2])
    | (refine HD3_val rfl ?_; simp [hm2])
    | (refine HD3_put ?_; simp [hm2])
    | (refine HD3_chg rfl rfl ?_; simp [hm2])
    | (refine HD3_nil (hC _ _ (by kernel_rfl) (by kernel_rfl)) (hk _ ?_); clear hC hk C k; simp only [RK_seq, RK_seq_ret, RK_seq_exit, RK_blk, RK_blk_ret, RK_blk_exit, RK_loop, RK_loop_ret, RK_loop_exit, RK_done]; simp [St.ins, insL, putE, getK_setOb, getK_cons])
    | (refine V_drawE rfl (by kernel_rfl) (by kernel_rfl) (by simp [hn]) fun C k hC hk => ?_; simp [hm2])
    | (refine HD_guardU rfl (by simp [hm2]) ?_; simp [hm2])
    | (refine HD_guard rfl (by simp [hm2]) (fun hc => ?_) (fun hc => ?_) <;> (try simp [hm2] at hc) <;> (try (exfalso; omega)) <;> (try simp [hm2]))
    | (refine HD2_guardU rfl (by simp [hm2]) ?_; simp [hm2])
    | (refine HD2_guard rfl (by simp [hm2]) (fun hc => ?_) (fun hc => ?_) <;> (try simp [hm2] at hc) <;> (try (exfalso; omega)) <;> (try simp [hm2]))
    | (refine V_sblock ?_; simp [hm2])
    | (refine V_sregion ?_; simp [hm2])
    | (refine V_ret ?_; simp only [RK_seq, RK_seq_ret, RK_seq_exit, RK_blk, RK_blk_ret, RK_blk_exit, RK_loop, RK_loop_ret, RK_loop_exit, RK_done])
    | (refine V_skip ?_; simp only [RK_seq, RK_seq_ret, RK_seq_exit, RK_blk, RK_blk_ret, RK_blk_exit, RK_loop, RK_loop_ret, RK_loop_exit, RK_done])
    | (refine V_exit ?_; simp [RK_seq, RK_seq_ret, RK_seq_exit, RK_blk, RK_blk_ret, RK_blk_exit, RK_loop, RK_loop_ret, RK_loop_exit, RK_done])
    | (refine ⟨?_, by omega⟩)
    | (refine ⟨fun hc => ?_, fun hc => ?_⟩ <;> (try (exfalso; omega)))
    | (intro hc <;> (try (exfalso; omega)))
    | (refine CallV.fun_ (h0) (by first | rfl | fail) (by first | assumption | (simp; done) | fail) (by first | (simp [hm2]; done) | (simp [hm2]; rfl) | fail) (by first | (simp; done) | fail) ?_ <;> (try simp [hm2]))
    | (refine CallP.fun_ (h0) (by first | rfl | fail) (by first | assumption | (simp; done) | fail) (by first | (simp [hm2]; done) | (simp [hm2]; rfl) | fail) (by first | (simp; done) | fail) (fun d hd => ?_); subst hd; (try simp [hm2]))
    | (refine CallV.fun_ (h1) (by first | rfl | fail) (by first | assumption | (simp; done) | fail) (by first | (simp [hm2]; done) | (simp [hm2]; rfl) | fail) (by first | (simp; done) | fail) ?_ <;> (try simp [hm2]))
    | (refine CallP.fun_ (h1) (by first | rfl | fail) (by first | assumption | (simp; done) | fail) (by first | (simp [hm2]; done) | (simp [hm2]; rfl) | fail) (by first | (simp; done) | fail) (fun d hd => ?_); subst hd; (try simp [hm2]))
    | (refine CallV.fun_ (h2) (by first | rfl | fail) (by first | assumption | (simp; done) | fail) (by first | (simp [hm2]; done) | (simp [hm2]; rfl) | fail) (by first | (simp; done) | fail) ?_ <;> (try simp [hm2]))
    | (refine CallP.fun_ (h2) (by first | rfl | fail) (by first | assumption | (simp; done) | fail) (by first | (simp [hm2]; done) | (simp [hm2]; rfl) | fail) (by first | (simp; done) | fail) (fun d hd => ?_); subst hd; (try simp [hm2])))
    all_goals
      (refine EndOK.val (.inr rfl) ?_; simp [resD, oneOrTup, pureD, Try.results4])
  rw [hr] at h2
  by_cases hv : kind < 0 ∨ 3 ≤ kind ∨ first < 0 ∨ 1000000 < first ∨ each < 0 ∨ 1000 < each
  · (refine Fun.of_body Try.func4 rfl (by simp) fun Γ hn => ?_); simp only [entry, List.zipIdx_cons, List.zipIdx_nil, List.map_cons, List.map_nil, Nat.zero_add, Try.ntmps4]
    repeat' (first
    | (refine H_cons ?_; simp [hm2])
    | (refine HD2_val rfl ?_; simp [hm2])
    | (refine HD_cons ?_; simp [hm2])
    | (refine HD2_chg rfl ?_; simp [hm2])
    | (refine H_nil ?_; simp [hm2])
    | (refine ⟨by omega, ?_⟩)
    | (refine V_sseq ?_; simp [hm2])
    | (refine V_scond ?_; simp [hm2])
    | (refine HD2_nil (hC _ (by kernel_rfl)) (hk _ ?_); clear hC hk C k; simp only [RK_seq, RK_seq_ret, RK_seq_exit, RK_blk, RK_blk_ret, RK_blk_exit, RK_loop, RK_loop_ret, RK_loop_exit, RK_done])
    | (refine HD_nil ?_)
    | (refine hk _ ?_; clear hk k; simp only [RK_seq, RK_seq_ret, RK_seq_exit, RK_blk, RK_blk_ret, RK_blk_exit, RK_loop, RK_loop_ret, RK_loop_exit, RK_done])
    | (refine V_drawV rfl (by kernel_rfl) (by kernel_rfl) fun k hk => ?_; simp [hm2])
    | (refine V_drawN rfl (by kernel_rfl) (by kernel_rfl) (by simp [hn]) fun C k hC hk => ?_; simp [hm2])
    | (refine HD3_val rfl ?_; simp [hm2])
    | (refine HD3_put ?_; simp [hm2])
    | (refine HD3_chg rfl rfl ?_; simp [hm2])
    | (refine HD3_nil (hC _ _ (by kernel_rfl) (by kernel_rfl)) (hk _ ?_); clear hC hk C k; simp only [RK_seq, RK_seq_ret, RK_seq_exit, RK_blk, RK_blk_ret, RK_blk_exit, RK_loop, RK_loop_ret, RK_loop_exit, RK_done]; simp [St.ins, insL, putE, getK_setOb, getK_cons])
    | (refine V_drawE rfl (by kernel_rfl) (by kernel_rfl) (by simp [hn]) fun C k hC hk => ?_; simp [hm2])
    | (refine HD_guardU rfl (by simp [hm2]) ?_; simp [hm2])
    | (refine HD_guard rfl (by simp [hm2]) (fun hc => ?_) (fun hc => ?_) <;> (try simp [hm2] at hc) <;> (try (exfalso; omega)) <;> (try simp [hm2]))
    | (refine HD2_guardU rfl (by simp [hm2]) ?_; simp [hm2])
    | (refine HD2_guard rfl (by simp [hm2]) (fun hc => ?_) (fun hc => ?_) <;> (try simp [hm2] at hc) <;> (try (exfalso; omega)) <;> (try simp [hm2]))
    | (refine V_sblock ?_; simp [hm2])
    | (refine V_sregion ?_; simp [hm2])
    | (refine V_ret ?_; simp only [RK_seq, RK_seq_ret, RK_seq_exit, RK_blk, RK_blk_ret, RK_blk_exit, RK_loop, RK_loop_ret, RK_loop_exit, RK_done])
    | (refine V_skip ?_; simp only [RK_seq, RK_seq_ret, RK_seq_exit, RK_blk, RK_blk_ret, RK_blk_exit, RK_loop, RK_loop_ret, RK_loop_exit, RK_done])
    | (refine V_exit ?_; simp [RK_seq, RK_seq_ret, RK_seq_exit, RK_blk, RK_blk_ret, RK_blk_exit, RK_loop, RK_loop_ret, RK_loop_exit, RK_done])
    | (refine ⟨?_, by omega⟩)
    | (refine ⟨fun hc => ?_, fun hc => ?_⟩ <;> (try (exfalso; omega)))
    | (intro hc <;> (try (exfalso; omega)))
    | (refine CallV.fun_ (h0) (by first | rfl | fail) (by first | assumption | (simp; done) | fail) (by first | (simp [hm2]; done) | (simp [hm2]; rfl) | fail) (by first | (simp; done) | fail) ?_ <;> (try simp [hm2]))
    | (refine CallP.fun_ (h0) (by first | rfl | fail) (by first | assumption | (simp; done) | fail) (by first | (simp [hm2]; done) | (simp [hm2]; rfl) | fail) (by first | (simp; done) | fail) (fun d hd => ?_); subst hd; (try simp [hm2]))
    | (refine CallV.fun_ (h1) (by first | rfl | fail) (by first | assumption | (simp; done) | fail) (by first | (simp [hm2]; done) | (simp [hm2]; rfl) | fail) (by first | (simp; done) | fail) ?_ <;> (try simp [hm2]))
    | (refine CallP.fun_ (h1) (by first | rfl | fail) (by first | assumption | (simp; done) | fail) (by first | (simp [hm2]; done) | (simp [hm2]; rfl) | fail) (by first | (simp; done) | fail) (fun d hd => ?_); subst hd; (try simp [hm2]))
    | (refine CallV.fun_ (h2) (by first | rfl | fail) (by first | assumption | (simp; done) | fail) (by first | (simp [hm2]; done) | (simp [hm2]; rfl) | fail) (by first | (simp; done) | fail) ?_ <;> (try simp [hm2]))
    | (refine CallP.fun_ (h2) (by first | rfl | fail) (by first | assumption | (simp; done) | fail) (by first | (simp [hm2]; done) | (simp [hm2]; rfl) | fail) (by first | (simp; done) | fail) (fun d hd => ?_); subst hd; (try simp [hm2])))
    all_goals
      (refine EndOK.val (.inr rfl) ?_; simp [resD, oneOrTup, pureD, Try.results4])
  obtain ⟨F, rfl⟩ := Int.eq_ofNat_of_zero_le (show 0 ≤ first by omega)
  have hF : F ≤ 1000000 := by omega
  have hnod := rightS_nodup hr
  have hf0 : ¬ (F : Int) < 0 := by omega
  have hk0 : ¬ kind < 0 := by omega
  have hk3 : ¬ 3 ≤ kind := by omega
  have he0 : ¬ each < 0 := by omega
  have he1 : ¬ 1000 < each := by omega
  have hF1 : ¬ 1000000 < (F : Int) := by omega
  (refine Fun.of_body Try.func4 rfl (by simp) fun Γ hn => ?_); simp only [entry, List.zipIdx_cons, List.zipIdx_nil, List.map_cons, List.map_nil, Nat.zero_add, Try.ntmps4]
  repeat' (first
    | (refine H_cons ?_; simp [hm2, hf0, hk0, hk3, he0, he1, hF1])
    | (refine HD2_val rfl ?_; simp [hm2, hf0, hk0, hk3, he0, he1, hF1])
    | (refine HD_cons ?_; simp [hm2, hf0, hk0, hk3, he0, he1, hF1])
    | (refine HD2_chg rfl ?_; simp [hm2, hf0, hk0, hk3, he0, he1, hF1])
    | (refine H_nil ?_; simp [hm2, hf0, hk0, hk3, he0, he1, hF1])
    | (refine ⟨by omega, ?_⟩)
    | (refine V_sseq ?_; simp [hm2, hf0, hk0, hk3, he0, he1, hF1])
    | (refine V_scond ?_; simp [hm2, hf0, hk0, hk3, he0, he1, hF1])
    | (refine HD2_nil (hC _ (by kernel_rfl)) (hk _ ?_); clear hC hk C k; simp only [RK_seq, RK_seq_ret, RK_seq_exit, RK_blk, RK_blk_ret, RK_blk_exit, RK_loop, RK_loop_ret, RK_loop_exit, RK_done])
    | (refine HD_nil ?_)
    | (refine hk _ ?_; clear hk k; simp only [RK_seq, RK_seq_ret, RK_seq_exit, RK_blk, RK_blk_ret, RK_blk_exit, RK_loop, RK_loop_ret, RK_loop_exit, RK_done])
    | (refine V_drawV rfl (by kernel_rfl) (by kernel_rfl) fun k hk => ?_; simp [hm2, hf0, hk0, hk3, he0, he1, hF1])
    | (refine V_drawN rfl (by kernel_rfl) (by kernel_rfl) (by simp [hn]) fun C k hC hk => ?_; simp [hm2, hf0, hk0, hk3, he0, he1, hF1])
    | (refine HD3_val rfl ?_; simp [hm2, hf0, hk0, hk3, he0, he1, hF1])
    | (refine HD3_put ?_; simp [hm2, hf0, hk0, hk3, he0, he1, hF1])
    | (refine HD3_chg rfl rfl ?_; simp [hm2, hf0, hk0, hk3, he0, he1, hF1])
    | (refine HD3_nil (hC _ _ (by kernel_rfl) (by kernel_rfl)) (hk _ ?_); clear hC hk C k; simp only [RK_seq, RK_seq_ret, RK_seq_exit, RK_blk, RK_blk_ret, RK_blk_exit, RK_loop, RK_loop_ret, RK_loop_exit, RK_done]; simp [St.ins, insL, putE, getK_setOb, getK_cons])
    | (refine V_drawE rfl (by kernel_rfl) (by kernel_rfl) (by simp [hn]) fun C k hC hk => ?_; simp [hm2, hf0, hk0, hk3, he0, he1, hF1])
    | (refine HD_guardU rfl (by simp [hm2, hf0, hk0, hk3, he0, he1, hF1]) ?_; simp [hm2, hf0, hk0, hk3, he0, he1, hF1])
    | (refine HD_guard rfl (by simp [hm2, hf0, hk0, hk3, he0, he1, hF1]) (fun hc => ?_) (fun hc => ?_) <;> (try simp [hm2, hf0, hk0, hk3, he0, he1, hF1] at hc) <;> (try (exfalso; omega)) <;> (try simp [hm2, hf0, hk0, hk3, he0, he1, hF1]))
    | (refine HD2_guardU rfl (by simp [hm2, hf0, hk0, hk3, he0, he1, hF1]) ?_; simp [hm2, hf0, hk0, hk3, he0, he1, hF1])
    | (refine HD2_guard rfl (by simp [hm2, hf0, hk0, hk3, he0, he1, hF1]) (fun hc => ?_) (fun hc => ?_) <;> (try simp [hm2, hf0, hk0, hk3, he0, he1, hF1] at hc) <;> (try (exfalso; omega)) <;> (try simp [hm2, hf0, hk0, hk3, he0, he1, hF1]))
    | (refine V_sblock ?_; simp [hm2, hf0, hk0, hk3, he0, he1, hF1])
    | (refine V_sregion ?_; simp [hm2, hf0, hk0, hk3, he0, he1, hF1])
    | (refine V_ret ?_; simp only [RK_seq, RK_seq_ret, RK_seq_exit, RK_blk, RK_blk_ret, RK_blk_exit, RK_loop, RK_loop_ret, RK_loop_exit, RK_done])
    | (refine V_skip ?_; simp only [RK_seq, RK_seq_ret, RK_seq_exit, RK_blk, RK_blk_ret, RK_blk_exit, RK_loop, RK_loop_ret, RK_loop_exit, RK_done])
    | (refine V_exit ?_; simp [RK_seq, RK_seq_ret, RK_seq_exit, RK_blk, RK_blk_ret, RK_blk_exit, RK_loop, RK_loop_ret, RK_loop_exit, RK_done])
    | (refine ⟨?_, by omega⟩)
    | (refine ⟨fun hc => ?_, fun hc => ?_⟩ <;> (try (exfalso; omega)))
    | (intro hc <;> (try (exfalso; omega)))
    | (refine CallV.fun_ (h0) (by first | rfl | fail) (by first | assumption | (simp; done) | fail) (by first | (simp [hm2, hf0, hk0, hk3, he0, he1, hF1]; done) | (simp [hm2, hf0, hk0, hk3, he0, he1, hF1]; rfl) | fail) (by first | (simp; done) | fail) ?_ <;> (try simp [hm2, hf0, hk0, hk3, he0, he1, hF1]))
    | (refine CallP.fun_ (h0) (by first | rfl | fail) (by first | assumption | (simp; done) | fail) (by first | (simp [hm2, hf0, hk0, hk3, he0, he1, hF1]; done) | (simp [hm2, hf0, hk0, hk3, he0, he1, hF1]; rfl) | fail) (by first | (simp; done) | fail) (fun d hd => ?_); subst hd; (try simp [hm2, hf0, hk0, hk3, he0, he1, hF1]))
    | (refine CallV.fun_ (h1) (by first | rfl | fail) (by first | assumption | (simp; done) | fail) (by first | (simp [hm2, hf0, hk0, hk3, he0, he1, hF1]; done) | (simp [hm2, hf0, hk0, hk3, he0, he1, hF1]; rfl) | fail) (by first | (simp; done) | fail) ?_ <;> (try simp [hm2, hf0, hk0, hk3, he0, he1, hF1]))
    | (refine CallP.fun_ (h1) (by first | rfl | fail) (by first | assumption | (simp; done) | fail) (by first | (simp [hm2, hf0, hk0, hk3, he0, he1, hF1]; done) | (simp [hm2, hf0, hk0, hk3, he0, he1, hF1]; rfl) | fail) (by first | (simp; done) | fail) (fun d hd => ?_); subst hd; (try simp [hm2, hf0, hk0, hk3, he0, he1, hF1]))
    | (refine CallV.fun_ (h2) (by first | rfl | fail) (by first | assumption | (simp; done) | fail) (by first | (simp [hm2, hf0, hk0, hk3, he0, he1, hF1]; done) | (simp [hm2, hf0, hk0, hk3, he0, he1, hF1]; rfl) | fail) (by first | (simp; done) | fail) ?_ <;> (try simp [hm2, hf0, hk0, hk3, he0, he1, hF1]))
    | (refine CallP.fun_ (h2) (by first | rfl | fail) (by first | assumption | (simp; done) | fail) (by first | (simp [hm2, hf0, hk0, hk3, he0, he1, hF1]; done) | (simp [hm2, hf0, hk0, hk3, he0, he1, hF1]; rfl) | fail) (by first | (simp; done) | fail) (fun d hd => ?_); subst hd; (try simp [hm2, hf0, hk0, hk3, he0, he1, hF1])))
  refine V_wk _ (Wk.own 12 3 1 (by decide) rfl) ?_
  simp [St.own]
  refine V_loopO (α := { i : Nat // i ≤ members.length }) [0, 1, 2, 3, 4, 11] (fun i => [(12, .vec 0 i.1), (13, .u (.int .i64 i.1))]) (fun i => [(0, .vec 3 1 (intR (List.replicate i.1 each)))]) 1 (fun i => members.length - i.1) ⟨0, by omega⟩ ?_ ?_
  · exact (Wk.cut rfl (by simp [hn]) (by simp [wkO, St.lp, getK_cons, getK, Ob.under, D.under, under_rowsD, under_entD, intR]) (by simp [wkU, St.lp, keepE, getK_cons, getK, D.under, intR]) (by simp [wkE, St.lp, keepE, getK_cons, getK, intR] <;> (try (intros; simp_all; done)) <;> (try (intros; omega)) <;> (try grind)))
  rintro ⟨i, hi⟩
  simp [St.lp, St.only, keepE, getK_cons, getK]
  by_cases hlt : i < members.length
  · have hap : intR (List.replicate i each) ++ [[D.u (.int .i64 each)]] = intR (List.replicate (i + 1) each) := by simp [intR, List.replicate_succ']
    have hlr : lenR 1 (intR (List.replicate i each)) := by simp [intR]
    repeat' (first
    | (refine H_cons ?_; simp [intR_len, hlt, hap, hlr])
    | (refine HD2_val rfl ?_; simp [intR_len, hlt, hap, hlr])
    | (refine HD_cons ?_; simp [intR_len, hlt, hap, hlr])
    | (refine HD2_chg rfl ?_; simp [intR_len, hlt, hap, hlr])
    | (refine H_nil ?_; simp [intR_len, hlt, hap, hlr])
    | (refine ⟨by omega, ?_⟩)
    | (refine V_sseq ?_; simp [intR_len, hlt, hap, hlr])
    | (refine V_scond ?_; simp [intR_len, hlt, hap, hlr])
    | (refine HD2_nil (hC _ (by kernel_rfl)) (hk _ ?_); clear hC hk C k; simp only [RK_seq, RK_seq_ret, RK_seq_exit, RK_blk, RK_blk_ret, RK_blk_exit, RK_loop, RK_loop_ret, RK_loop_exit, RK_done])
    | (refine HD_nil ?_)
    | (refine hk _ ?_; clear hk k; simp only [RK_seq, RK_seq_ret, RK_seq_exit, RK_blk, RK_blk_ret, RK_blk_exit, RK_loop, RK_loop_ret, RK_loop_exit, RK_done])
    | (refine V_drawV rfl (by kernel_rfl) (by kernel_rfl) fun k hk => ?_; simp [intR_len, hlt, hap, hlr])
    | (refine V_drawN rfl (by kernel_rfl) (by kernel_rfl) (by simp [hn]) fun C k hC hk => ?_; simp [intR_len, hlt, hap, hlr])
    | (refine HD3_val rfl ?_; simp [intR_len, hlt, hap, hlr])
    | (refine HD3_put ?_; simp [intR_len, hlt, hap, hlr])
    | (refine HD3_chg rfl rfl ?_; simp [intR_len, hlt, hap, hlr])
    | (refine HD3_nil (hC _ _ (by kernel_rfl) (by kernel_rfl)) (hk _ ?_); clear hC hk C k; simp only [RK_seq, RK_seq_ret, RK_seq_exit, RK_blk, RK_blk_ret, RK_blk_exit, RK_loop, RK_loop_ret, RK_loop_exit, RK_done]; simp [St.ins, insL, putE, getK_setOb, getK_cons])
    | (refine V_drawE rfl (by kernel_rfl) (by kernel_rfl) (by simp [hn]) fun C k hC hk => ?_; simp [intR_len, hlt, hap, hlr])
    | (refine HD_guardU rfl (by simp [intR_len, hlt, hap, hlr]) ?_; simp [intR_len, hlt, hap, hlr])
    | (refine HD_guard rfl (by simp [intR_len, hlt, hap, hlr]) (fun hc => ?_) (fun hc => ?_) <;> (try simp [intR_len, hlt, hap, hlr] at hc) <;> (try (exfalso; omega)) <;> (try simp [intR_len, hlt, hap, hlr]))
    | (refine HD2_guardU rfl (by simp [intR_len, hlt, hap, hlr]) ?_; simp [intR_len, hlt, hap, hlr])
    | (refine HD2_guard rfl (by simp [intR_len, hlt, hap, hlr]) (fun hc => ?_) (fun hc => ?_) <;> (try simp [intR_len, hlt, hap, hlr] at hc) <;> (try (exfalso; omega)) <;> (try simp [intR_len, hlt, hap, hlr]))
    | (refine V_sblock ?_; simp [intR_len, hlt, hap, hlr])
    | (refine V_sregion ?_; simp [intR_len, hlt, hap, hlr])
    | (refine V_ret ?_; simp only [RK_seq, RK_seq_ret, RK_seq_exit, RK_blk, RK_blk_ret, RK_blk_exit, RK_loop, RK_loop_ret, RK_loop_exit, RK_done])
    | (refine V_skip ?_; simp only [RK_seq, RK_seq_ret, RK_seq_exit, RK_blk, RK_blk_ret, RK_blk_exit, RK_loop, RK_loop_ret, RK_loop_exit, RK_done])
    | (refine V_exit ?_; simp [RK_seq, RK_seq_ret, RK_seq_exit, RK_blk, RK_blk_ret, RK_blk_exit, RK_loop, RK_loop_ret, RK_loop_exit, RK_done])
    | (refine ⟨?_, by omega⟩)
    | (refine ⟨fun hc => ?_, fun hc => ?_⟩ <;> (try (exfalso; omega)))
    | (intro hc <;> (try (exfalso; omega))))
    refine LoopW.next ⟨i + 1, by omega⟩ (by simp; omega) ?_
    exact (Wk.ren ((fun i => if i = 0 then 2 else i)) rfl (by simp [hn]) (by simp [wkER, St.lp, keepE, getK_cons, getK, getK_del, getK_setOb, D.under, D.le, D.ren, pure_intR, under_intR] <;> (try (intros; simp_all; done)) <;> (try omega)) (by simp [wkR, St.lp, getK_cons, getK, getK_del, getK_setOb, obR, leU, pureRow, pureRows, Ob.under, D.under, D.le, D.ren, pure_intR, under_intR] <;> (try (intros; simp_all; done)) <;> (try omega)) (by simp))
  obtain rfl : i = members.length := by omega
  repeat' (first
    | (refine H_cons ?_; simp [intR_len])
    | (refine HD2_val rfl ?_; simp [intR_len])
    | (refine HD_cons ?_; simp [intR_len])
    | (refine HD2_chg rfl ?_; simp [intR_len])
    | (refine H_nil ?_; simp [intR_len])
    | (refine ⟨by omega, ?_⟩)
    | (refine V_sseq ?_; simp [intR_len])
    | (refine V_scond ?_; simp [intR_len])
    | (refine HD2_nil (hC _ (by kernel_rfl)) (hk _ ?_); clear hC hk C k; simp only [RK_seq, RK_seq_ret, RK_seq_exit, RK_blk, RK_blk_ret, RK_blk_exit, RK_loop, RK_loop_ret, RK_loop_exit, RK_done])
    | (refine HD_nil ?_)
    | (refine hk _ ?_; clear hk k; simp only [RK_seq, RK_seq_ret, RK_seq_exit, RK_blk, RK_blk_ret, RK_blk_exit, RK_loop, RK_loop_ret, RK_loop_exit, RK_done])
    | (refine V_drawV rfl (by kernel_rfl) (by kernel_rfl) fun k hk => ?_; simp [intR_len])
    | (refine V_drawN rfl (by kernel_rfl) (by kernel_rfl) (by simp [hn]) fun C k hC hk => ?_; simp [intR_len])
    | (refine HD3_val rfl ?_; simp [intR_len])
    | (refine HD3_put ?_; simp [intR_len])
    | (refine HD3_chg rfl rfl ?_; simp [intR_len])
    | (refine HD3_nil (hC _ _ (by kernel_rfl) (by kernel_rfl)) (hk _ ?_); clear hC hk C k; simp only [RK_seq, RK_seq_ret, RK_seq_exit, RK_blk, RK_blk_ret, RK_blk_exit, RK_loop, RK_loop_ret, RK_loop_exit, RK_done]; simp [St.ins, insL, putE, getK_setOb, getK_cons])
    | (refine V_drawE rfl (by kernel_rfl) (by kernel_rfl) (by simp [hn]) fun C k hC hk => ?_; simp [intR_len])
    | (refine HD_guardU rfl (by simp [intR_len]) ?_; simp [intR_len])
    | (refine HD_guard rfl (by simp [intR_len]) (fun hc => ?_) (fun hc => ?_) <;> (try simp [intR_len] at hc) <;> (try (exfalso; omega)) <;> (try simp [intR_len]))
    | (refine HD2_guardU rfl (by simp [intR_len]) ?_; simp [intR_len])
    | (refine HD2_guard rfl (by simp [intR_len]) (fun hc => ?_) (fun hc => ?_) <;> (try simp [intR_len] at hc) <;> (try (exfalso; omega)) <;> (try simp [intR_len]))
    | (refine V_sblock ?_; simp [intR_len])
    | (refine V_sregion ?_; simp [intR_len])
    | (refine V_ret ?_; simp only [RK_seq, RK_seq_ret, RK_seq_exit, RK_blk, RK_blk_ret, RK_blk_exit, RK_loop, RK_loop_ret, RK_loop_exit, RK_done])
    | (refine V_skip ?_; simp only [RK_seq, RK_seq_ret, RK_seq_exit, RK_blk, RK_blk_ret, RK_blk_exit, RK_loop, RK_loop_ret, RK_loop_exit, RK_done])
    | (refine V_exit ?_; simp [RK_seq, RK_seq_ret, RK_seq_exit, RK_blk, RK_blk_ret, RK_blk_exit, RK_loop, RK_loop_ret, RK_loop_exit, RK_done])
    | (refine ⟨?_, by omega⟩)
    | (refine ⟨fun hc => ?_, fun hc => ?_⟩ <;> (try (exfalso; omega)))
    | (intro hc <;> (try (exfalso; omega))))
  have hz := hadL_zero members.length each (rnd members kind seed F)
  refine V_loopO (α := { p : Nat // p ≤ members.length }) [0, 1, 2, 3, 4, 11, 12] (fun p => [(14, .u (.int .i64 p.1))]) (fun p => [(0, .vec 3 1 (intR (hadL members.length each (rnd members kind seed F) p.1)))]) 1 (fun p => members.length - p.1) ⟨0, by omega⟩ ?_ ?_
  · exact (Wk.cut rfl (by simp [hn]) (by simp [wkO, St.lp, getK_cons, getK, Ob.under, D.under, under_rowsD, under_entD, hz, pure_intR, under_intR]) (by simp [wkU, St.lp, keepE, getK_cons, getK, D.under, hz, pure_intR, under_intR]) (by simp [wkE, St.lp, keepE, getK_cons, getK, hz, pure_intR, under_intR] <;> (try (intros; simp_all; done)) <;> (try (intros; omega)) <;> (try grind)))
  rintro ⟨p, hp⟩
  simp [St.lp, St.only, keepE, getK_cons, getK]
  have hl := hadL_len members.length each (rnd members kind seed F) p
  by_cases hlt : p < members.length
  · have ht := rnd_lt (l := members) (kind := kind) (seed := seed) (first := F) hlt
    have hg := hadL_get (each := each) ht (fun q hq e => by have := rnd_inj (show q < members.length by omega) hlt e; omega)
    have hst := hadL_step (each := each) ht
    have hne : members ≠ [] := fun h => by subst h; simp at hlt
    have hhne : hadL members.length each (rnd members kind seed F) p ≠ [] := fun h => by rw [h] at hg; simp at hg
    have hmin : 0 ≤ minS (hadL members.length each (rnd members kind seed F) p) := by have := hadL_mem (minS_mem hhne); omega
    have hnx := (nextS_pick (seed := seed) (m := F + p) hr hne hl (show 0 ≤ kind by omega) (show kind < 3 by omega) hmin).1
    rw [rnd_pick hlt, Int.natCast_add] at hnx
    have hnf := next_fun members (hadL members.length each (rnd members kind seed F) p) kind seed ((F : Int) + (p : Int)) (by omega) (by omega)
    rw [hnx] at hnf
    have hat := at_fun members (members.getD (rnd members kind seed F p) 0) (by omega)
    rw [idxS_get hnod ht] at hat
    have hnn : ¬ ((rnd members kind seed F p : Nat) : Int) < 0 := by omega
    generalize members.getD (rnd members kind seed F p) 0 = key at hnf hat
    generalize hT : rnd members kind seed F p = T at hg hst hat ht hnn
    generalize hA : hadL members.length each (rnd members kind seed F) p = A at hg hst hl hnf
    have hgE : ∀ h : T < A.length, A[T]'h = each := fun h => (List.getElem?_eq_some_iff.1 hg).2
    have hTl : T < A.length := by omega
    simp only [hl] at hTl hgE
    try simp only [hA]
    repeat' (first
    | (refine H_cons ?_; simp [intR_len, intR_all, intR_getE, intR_set, hl, hlt, ht, hgE, hst, hnn])
    | (refine HD2_val rfl ?_; simp [intR_len, intR_all, intR_getE, intR_set, hl, hlt, ht, hgE, hst, hnn])
    | (refine HD_cons ?_; simp [intR_len, intR_all, intR_getE, intR_set, hl, hlt, ht, hgE, hst, hnn])
    | (refine HD2_chg rfl ?_; simp [intR_len, intR_all, intR_getE, intR_set, hl, hlt, ht, hgE, hst, hnn])
    | (refine H_nil ?_; simp [intR_len, intR_all, intR_getE, intR_set, hl, hlt, ht, hgE, hst, hnn])
    | (refine ⟨by omega, ?_⟩)
    | (refine V_sseq ?_; simp [intR_len, intR_all, intR_getE, intR_set, hl, hlt, ht, hgE, hst, hnn])
    | (refine V_scond ?_; simp [intR_len, intR_all, intR_getE, intR_set, hl, hlt, ht, hgE, hst, hnn])
    | (refine HD2_nil (hC _ (by kernel_rfl)) (hk _ ?_); clear hC hk C k; simp only [RK_seq, RK_seq_ret, RK_seq_exit, RK_blk, RK_blk_ret, RK_blk_exit, RK_loop, RK_loop_ret, RK_loop_exit, RK_done])
    | (refine HD_nil ?_)
    | (refine hk _ ?_; clear hk k; simp only [RK_seq, RK_seq_ret, RK_seq_exit, RK_blk, RK_blk_ret, RK_blk_exit, RK_loop, RK_loop_ret, RK_loop_exit, RK_done])
    | (refine V_drawV rfl (by kernel_rfl) (by kernel_rfl) fun k hk => ?_; simp [intR_len, intR_all, intR_getE, intR_set, hl, hlt, ht, hgE, hst, hnn])
    | (refine V_drawN rfl (by kernel_rfl) (by kernel_rfl) (by simp [hn]) fun C k hC hk => ?_; simp [intR_len, intR_all, intR_getE, intR_set, hl, hlt, ht, hgE, hst, hnn])
    | (refine HD3_val rfl ?_; simp [intR_len, intR_all, intR_getE, intR_set, hl, hlt, ht, hgE, hst, hnn])
    | (refine HD3_put ?_; simp [intR_len, intR_all, intR_getE, intR_set, hl, hlt, ht, hgE, hst, hnn])
    | (refine HD3_chg rfl rfl ?_; simp [intR_len, intR_all, intR_getE, intR_set, hl, hlt, ht, hgE, hst, hnn])
    | (refine HD3_nil (hC _ _ (by kernel_rfl) (by kernel_rfl)) (hk _ ?_); clear hC hk C k; simp only [RK_seq, RK_seq_ret, RK_seq_exit, RK_blk, RK_blk_ret, RK_blk_exit, RK_loop, RK_loop_ret, RK_loop_exit, RK_done]; simp [St.ins, insL, putE, getK_setOb, getK_cons])
    | (refine V_drawE rfl (by kernel_rfl) (by kernel_rfl) (by simp [hn]) fun C k hC hk => ?_; simp [intR_len, intR_all, intR_getE, intR_set, hl, hlt, ht, hgE, hst, hnn])
    | (refine HD_guardU rfl (by simp [intR_len, intR_all, intR_getE, intR_set, hl, hlt, ht, hgE, hst, hnn]) ?_; simp [intR_len, intR_all, intR_getE, intR_set, hl, hlt, ht, hgE, hst, hnn])
    | (refine HD_guard rfl (by simp [intR_len, intR_all, intR_getE, intR_set, hl, hlt, ht, hgE, hst, hnn]) (fun hc => ?_) (fun hc => ?_) <;> (try simp [intR_len, intR_all, intR_getE, intR_set, hl, hlt, ht, hgE, hst, hnn] at hc) <;> (try (exfalso; omega)) <;> (try simp [intR_len, intR_all, intR_getE, intR_set, hl, hlt, ht, hgE, hst, hnn]))
    | (refine HD2_guardU rfl (by simp [intR_len, intR_all, intR_getE, intR_set, hl, hlt, ht, hgE, hst, hnn]) ?_; simp [intR_len, intR_all, intR_getE, intR_set, hl, hlt, ht, hgE, hst, hnn])
    | (refine HD2_guard rfl (by simp [intR_len, intR_all, intR_getE, intR_set, hl, hlt, ht, hgE, hst, hnn]) (fun hc => ?_) (fun hc => ?_) <;> (try simp [intR_len, intR_all, intR_getE, intR_set, hl, hlt, ht, hgE, hst, hnn] at hc) <;> (try (exfalso; omega)) <;> (try simp [intR_len, intR_all, intR_getE, intR_set, hl, hlt, ht, hgE, hst, hnn]))
    | (refine V_sblock ?_; simp [intR_len, intR_all, intR_getE, intR_set, hl, hlt, ht, hgE, hst, hnn])
    | (refine V_sregion ?_; simp [intR_len, intR_all, intR_getE, intR_set, hl, hlt, ht, hgE, hst, hnn])
    | (refine V_ret ?_; simp only [RK_seq, RK_seq_ret, RK_seq_exit, RK_blk, RK_blk_ret, RK_blk_exit, RK_loop, RK_loop_ret, RK_loop_exit, RK_done])
    | (refine V_skip ?_; simp only [RK_seq, RK_seq_ret, RK_seq_exit, RK_blk, RK_blk_ret, RK_blk_exit, RK_loop, RK_loop_ret, RK_loop_exit, RK_done])
    | (refine V_exit ?_; simp [RK_seq, RK_seq_ret, RK_seq_exit, RK_blk, RK_blk_ret, RK_blk_exit, RK_loop, RK_loop_ret, RK_loop_exit, RK_done])
    | (refine ⟨?_, by omega⟩)
    | (refine ⟨fun hc => ?_, fun hc => ?_⟩ <;> (try (exfalso; omega)))
    | (intro hc <;> (try (exfalso; omega)))
    | (refine CallV.fun_ (hnf) (by first | rfl | fail) (by first | assumption | (simp; done) | fail) (by first | (simp [intR_len, intR_all, intR_getE, intR_set, hl, hlt, ht, hgE, hst, hnn]; done) | (simp [intR_len, intR_all, intR_getE, intR_set, hl, hlt, ht, hgE, hst, hnn]; rfl) | fail) (by first | (simp; done) | fail) ?_ <;> (try simp [intR_len, intR_all, intR_getE, intR_set, hl, hlt, ht, hgE, hst, hnn]))
    | (refine CallP.fun_ (hnf) (by first | rfl | fail) (by first | assumption | (simp; done) | fail) (by first | (simp [intR_len, intR_all, intR_getE, intR_set, hl, hlt, ht, hgE, hst, hnn]; done) | (simp [intR_len, intR_all, intR_getE, intR_set, hl, hlt, ht, hgE, hst, hnn]; rfl) | fail) (by first | (simp; done) | fail) (fun d hd => ?_); subst hd; (try simp [intR_len, intR_all, intR_getE, intR_set, hl, hlt, ht, hgE, hst, hnn]))
    | (refine CallV.fun_ (hat) (by first | rfl | fail) (by first | assumption | (simp; done) | fail) (by first | (simp [intR_len, intR_all, intR_getE, intR_set, hl, hlt, ht, hgE, hst, hnn]; done) | (simp [intR_len, intR_all, intR_getE, intR_set, hl, hlt, ht, hgE, hst, hnn]; rfl) | fail) (by first | (simp; done) | fail) ?_ <;> (try simp [intR_len, intR_all, intR_getE, intR_set, hl, hlt, ht, hgE, hst, hnn]))
    | (refine CallP.fun_ (hat) (by first | rfl | fail) (by first | assumption | (simp; done) | fail) (by first | (simp [intR_len, intR_all, intR_getE, intR_set, hl, hlt, ht, hgE, hst, hnn]; done) | (simp [intR_len, intR_all, intR_getE, intR_set, hl, hlt, ht, hgE, hst, hnn]; rfl) | fail) (by first | (simp; done) | fail) (fun d hd => ?_); subst hd; (try simp [intR_len, intR_all, intR_getE, intR_set, hl, hlt, ht, hgE, hst, hnn])))
    refine LoopW.next ⟨p + 1, by omega⟩ (by simp; omega) ?_
    try simp only [hA]
    exact (Wk.cut rfl (by simp [hn]) (by simp [wkO, St.lp, getK_cons, getK, Ob.under, D.under, under_rowsD, under_entD, pure_intR, under_intR]) (by simp [wkU, St.lp, keepE, getK_cons, getK, D.under, pure_intR, under_intR]) (by simp [wkE, St.lp, keepE, getK_cons, getK, pure_intR, under_intR] <;> (try (intros; simp_all; done)) <;> (try (intros; omega)) <;> (try grind)))
  obtain rfl : p = members.length := by omega
  have hfull := hadL_full (n := members.length) (each := each) (t := rnd members kind seed F) (fun i hi => rnd_surj hi)
  rw [hfull]
  repeat' (first
    | (refine H_cons ?_; simp [intR_len])
    | (refine HD2_val rfl ?_; simp [intR_len])
    | (refine HD_cons ?_; simp [intR_len])
    | (refine HD2_chg rfl ?_; simp [intR_len])
    | (refine H_nil ?_; simp [intR_len])
    | (refine ⟨by omega, ?_⟩)
    | (refine V_sseq ?_; simp [intR_len])
    | (refine V_scond ?_; simp [intR_len])
    | (refine HD2_nil (hC _ (by kernel_rfl)) (hk _ ?_); clear hC hk C k; simp only [RK_seq, RK_seq_ret, RK_seq_exit, RK_blk, RK_blk_ret, RK_blk_exit, RK_loop, RK_loop_ret, RK_loop_exit, RK_done])
    | (refine HD_nil ?_)
    | (refine hk _ ?_; clear hk k; simp only [RK_seq, RK_seq_ret, RK_seq_exit, RK_blk, RK_blk_ret, RK_blk_exit, RK_loop, RK_loop_ret, RK_loop_exit, RK_done])
    | (refine V_drawV rfl (by kernel_rfl) (by kernel_rfl) fun k hk => ?_; simp [intR_len])
    | (refine V_drawN rfl (by kernel_rfl) (by kernel_rfl) (by simp [hn]) fun C k hC hk => ?_; simp [intR_len])
    | (refine HD3_val rfl ?_; simp [intR_len])
    | (refine HD3_put ?_; simp [intR_len])
    | (refine HD3_chg rfl rfl ?_; simp [intR_len])
    | (refine HD3_nil (hC _ _ (by kernel_rfl) (by kernel_rfl)) (hk _ ?_); clear hC hk C k; simp only [RK_seq, RK_seq_ret, RK_seq_exit, RK_blk, RK_blk_ret, RK_blk_exit, RK_loop, RK_loop_ret, RK_loop_exit, RK_done]; simp [St.ins, insL, putE, getK_setOb, getK_cons])
    | (refine V_drawE rfl (by kernel_rfl) (by kernel_rfl) (by simp [hn]) fun C k hC hk => ?_; simp [intR_len])
    | (refine HD_guardU rfl (by simp [intR_len]) ?_; simp [intR_len])
    | (refine HD_guard rfl (by simp [intR_len]) (fun hc => ?_) (fun hc => ?_) <;> (try simp [intR_len] at hc) <;> (try (exfalso; omega)) <;> (try simp [intR_len]))
    | (refine HD2_guardU rfl (by simp [intR_len]) ?_; simp [intR_len])
    | (refine HD2_guard rfl (by simp [intR_len]) (fun hc => ?_) (fun hc => ?_) <;> (try simp [intR_len] at hc) <;> (try (exfalso; omega)) <;> (try simp [intR_len]))
    | (refine V_sblock ?_; simp [intR_len])
    | (refine V_sregion ?_; simp [intR_len])
    | (refine V_ret ?_; simp only [RK_seq, RK_seq_ret, RK_seq_exit, RK_blk, RK_blk_ret, RK_blk_exit, RK_loop, RK_loop_ret, RK_loop_exit, RK_done])
    | (refine V_skip ?_; simp only [RK_seq, RK_seq_ret, RK_seq_exit, RK_blk, RK_blk_ret, RK_blk_exit, RK_loop, RK_loop_ret, RK_loop_exit, RK_done])
    | (refine V_exit ?_; simp [RK_seq, RK_seq_ret, RK_seq_exit, RK_blk, RK_blk_ret, RK_blk_exit, RK_loop, RK_loop_ret, RK_loop_exit, RK_done])
    | (refine ⟨?_, by omega⟩)
    | (refine ⟨fun hc => ?_, fun hc => ?_⟩ <;> (try (exfalso; omega)))
    | (intro hc <;> (try (exfalso; omega))))
  refine V_loopO (α := { i : Nat // i ≤ members.length }) [4, 11, 12] (fun i => [(18, .u (.int .i64 i.1))]) (fun i => [(0, .vec 3 1 (intR (List.replicate members.length (each + 1))))]) 1 (fun i => members.length - i.1) ⟨0, by omega⟩ ?_ ?_
  · exact (Wk.cut rfl (by simp [hn]) (by simp [wkO, St.lp, getK_cons, getK, Ob.under, D.under, under_rowsD, under_entD, pure_intR, under_intR]) (by simp [wkU, St.lp, keepE, getK_cons, getK, D.under, pure_intR, under_intR]) (by simp [wkE, St.lp, keepE, getK_cons, getK, pure_intR, under_intR] <;> (try (intros; simp_all; done)) <;> (try (intros; omega)) <;> (try grind)))
  rintro ⟨i, hi⟩
  simp [St.lp, St.only, keepE, getK_cons, getK]
  by_cases hlt : i < members.length
  · repeat' (first
    | (refine H_cons ?_; simp [intR_len, intR_getE, hlt])
    | (refine HD2_val rfl ?_; simp [intR_len, intR_getE, hlt])
    | (refine HD_cons ?_; simp [intR_len, intR_getE, hlt])
    | (refine HD2_chg rfl ?_; simp [intR_len, intR_getE, hlt])
    | (refine H_nil ?_; simp [intR_len, intR_getE, hlt])
    | (refine ⟨by omega, ?_⟩)
    | (refine V_sseq ?_; simp [intR_len, intR_getE, hlt])
    | (refine V_scond ?_; simp [intR_len, intR_getE, hlt])
    | (refine HD2_nil (hC _ (by kernel_rfl)) (hk _ ?_); clear hC hk C k; simp only [RK_seq, RK_seq_ret, RK_seq_exit, RK_blk, RK_blk_ret, RK_blk_exit, RK_loop, RK_loop_ret, RK_loop_exit, RK_done])
    | (refine HD_nil ?_)
    | (refine hk _ ?_; clear hk k; simp only [RK_seq, RK_seq_ret, RK_seq_exit, RK_blk, RK_blk_ret, RK_blk_exit, RK_loop, RK_loop_ret, RK_loop_exit, RK_done])
    | (refine V_drawV rfl (by kernel_rfl) (by kernel_rfl) fun k hk => ?_; simp [intR_len, intR_getE, hlt])
    | (refine V_drawN rfl (by kernel_rfl) (by kernel_rfl) (by simp [hn]) fun C k hC hk => ?_; simp [intR_len, intR_getE, hlt])
    | (refine HD3_val rfl ?_; simp [intR_len, intR_getE, hlt])
    | (refine HD3_put ?_; simp [intR_len, intR_getE, hlt])
    | (refine HD3_chg rfl rfl ?_; simp [intR_len, intR_getE, hlt])
    | (refine HD3_nil (hC _ _ (by kernel_rfl) (by kernel_rfl)) (hk _ ?_); clear hC hk C k; simp only [RK_seq, RK_seq_ret, RK_seq_exit, RK_blk, RK_blk_ret, RK_blk_exit, RK_loop, RK_loop_ret, RK_loop_exit, RK_done]; simp [St.ins, insL, putE, getK_setOb, getK_cons])
    | (refine V_drawE rfl (by kernel_rfl) (by kernel_rfl) (by simp [hn]) fun C k hC hk => ?_; simp [intR_len, intR_getE, hlt])
    | (refine HD_guardU rfl (by simp [intR_len, intR_getE, hlt]) ?_; simp [intR_len, intR_getE, hlt])
    | (refine HD_guard rfl (by simp [intR_len, intR_getE, hlt]) (fun hc => ?_) (fun hc => ?_) <;> (try simp [intR_len, intR_getE, hlt] at hc) <;> (try (exfalso; omega)) <;> (try simp [intR_len, intR_getE, hlt]))
    | (refine HD2_guardU rfl (by simp [intR_len, intR_getE, hlt]) ?_; simp [intR_len, intR_getE, hlt])
    | (refine HD2_guard rfl (by simp [intR_len, intR_getE, hlt]) (fun hc => ?_) (fun hc => ?_) <;> (try simp [intR_len, intR_getE, hlt] at hc) <;> (try (exfalso; omega)) <;> (try simp [intR_len, intR_getE, hlt]))
    | (refine V_sblock ?_; simp [intR_len, intR_getE, hlt])
    | (refine V_sregion ?_; simp [intR_len, intR_getE, hlt])
    | (refine V_ret ?_; simp only [RK_seq, RK_seq_ret, RK_seq_exit, RK_blk, RK_blk_ret, RK_blk_exit, RK_loop, RK_loop_ret, RK_loop_exit, RK_done])
    | (refine V_skip ?_; simp only [RK_seq, RK_seq_ret, RK_seq_exit, RK_blk, RK_blk_ret, RK_blk_exit, RK_loop, RK_loop_ret, RK_loop_exit, RK_done])
    | (refine V_exit ?_; simp [RK_seq, RK_seq_ret, RK_seq_exit, RK_blk, RK_blk_ret, RK_blk_exit, RK_loop, RK_loop_ret, RK_loop_exit, RK_done])
    | (refine ⟨?_, by omega⟩)
    | (refine ⟨fun hc => ?_, fun hc => ?_⟩ <;> (try (exfalso; omega)))
    | (intro hc <;> (try (exfalso; omega))))
    refine LoopW.next ⟨i + 1, by omega⟩ (by simp; omega) ?_
    exact (Wk.cut rfl (by simp [hn]) (by simp [wkO, St.lp, getK_cons, getK, Ob.under, D.under, under_rowsD, under_entD, pure_intR, under_intR]) (by simp [wkU, St.lp, keepE, getK_cons, getK, D.under, pure_intR, under_intR]) (by simp [wkE, St.lp, keepE, getK_cons, getK, pure_intR, under_intR] <;> (try (intros; simp_all; done)) <;> (try (intros; omega)) <;> (try grind)))
  · repeat' (first
    | (refine H_cons ?_; simp [intR_len, hlt])
    | (refine HD2_val rfl ?_; simp [intR_len, hlt])
    | (refine HD_cons ?_; simp [intR_len, hlt])
    | (refine HD2_chg rfl ?_; simp [intR_len, hlt])
    | (refine H_nil ?_; simp [intR_len, hlt])
    | (refine ⟨by omega, ?_⟩)
    | (refine V_sseq ?_; simp [intR_len, hlt])
    | (refine V_scond ?_; simp [intR_len, hlt])
    | (refine HD2_nil (hC _ (by kernel_rfl)) (hk _ ?_); clear hC hk C k; simp only [RK_seq, RK_seq_ret, RK_seq_exit, RK_blk, RK_blk_ret, RK_blk_exit, RK_loop, RK_loop_ret, RK_loop_exit, RK_done])
    | (refine HD_nil ?_)
    | (refine hk _ ?_; clear hk k; simp only [RK_seq, RK_seq_ret, RK_seq_exit, RK_blk, RK_blk_ret, RK_blk_exit, RK_loop, RK_loop_ret, RK_loop_exit, RK_done])
    | (refine V_drawV rfl (by kernel_rfl) (by kernel_rfl) fun k hk => ?_; simp [intR_len, hlt])
    | (refine V_drawN rfl (by kernel_rfl) (by kernel_rfl) (by simp [hn]) fun C k hC hk => ?_; simp [intR_len, hlt])
    | (refine HD3_val rfl ?_; simp [intR_len, hlt])
    | (refine HD3_put ?_; simp [intR_len, hlt])
    | (refine HD3_chg rfl rfl ?_; simp [intR_len, hlt])
    | (refine HD3_nil (hC _ _ (by kernel_rfl) (by kernel_rfl)) (hk _ ?_); clear hC hk C k; simp only [RK_seq, RK_seq_ret, RK_seq_exit, RK_blk, RK_blk_ret, RK_blk_exit, RK_loop, RK_loop_ret, RK_loop_exit, RK_done]; simp [St.ins, insL, putE, getK_setOb, getK_cons])
    | (refine V_drawE rfl (by kernel_rfl) (by kernel_rfl) (by simp [hn]) fun C k hC hk => ?_; simp [intR_len, hlt])
    | (refine HD_guardU rfl (by simp [intR_len, hlt]) ?_; simp [intR_len, hlt])
    | (refine HD_guard rfl (by simp [intR_len, hlt]) (fun hc => ?_) (fun hc => ?_) <;> (try simp [intR_len, hlt] at hc) <;> (try (exfalso; omega)) <;> (try simp [intR_len, hlt]))
    | (refine HD2_guardU rfl (by simp [intR_len, hlt]) ?_; simp [intR_len, hlt])
    | (refine HD2_guard rfl (by simp [intR_len, hlt]) (fun hc => ?_) (fun hc => ?_) <;> (try simp [intR_len, hlt] at hc) <;> (try (exfalso; omega)) <;> (try simp [intR_len, hlt]))
    | (refine V_sblock ?_; simp [intR_len, hlt])
    | (refine V_sregion ?_; simp [intR_len, hlt])
    | (refine V_ret ?_; simp only [RK_seq, RK_seq_ret, RK_seq_exit, RK_blk, RK_blk_ret, RK_blk_exit, RK_loop, RK_loop_ret, RK_loop_exit, RK_done])
    | (refine V_skip ?_; simp only [RK_seq, RK_seq_ret, RK_seq_exit, RK_blk, RK_blk_ret, RK_blk_exit, RK_loop, RK_loop_ret, RK_loop_exit, RK_done])
    | (refine V_exit ?_; simp [RK_seq, RK_seq_ret, RK_seq_exit, RK_blk, RK_blk_ret, RK_blk_exit, RK_loop, RK_loop_ret, RK_loop_exit, RK_done])
    | (refine ⟨?_, by omega⟩)
    | (refine ⟨fun hc => ?_, fun hc => ?_⟩ <;> (try (exfalso; omega)))
    | (intro hc <;> (try (exfalso; omega))))
    (refine EndOK.val (.inr rfl) ?_; simp [resD, oneOrTup, pureD, Try.results4])
end Go.Proofs.Ytmebfcehkfaiaaa
