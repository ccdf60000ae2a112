/- Layer 26: what is left of means: the walk. -/
import Derived.Test.YtjmddlekokodfaaBm
set_option linter.all false
set_option maxRecDepth 100000
set_option maxHeartbeats 8000000
set_option linter.all false
namespace Go.Proofs.Ytjmddlekokodfaa
open Go Go.VL
theorem matL_get {n : Nat} (P : Nat → Nat → Int) {i : Nat} (h : i < n) : (matL n P)[i]? = some (lst n (P i)) := by simp [matL, h]
attribute [local simp] hcons hstep evPure opd uOf putOK St.put St.at getK binD binI binS binB nilD aggD eqUs cmpK lookD lookR rangeD nextD entryD keyD valU keyU lookK mkV entD_nil lookK_entD updK_entD1 updK_entD2 updK_entD3 allUE allUE_entD makeMapD mapUpdD mapEff updK valM Key.kk shiftI arith unD convD pickD loadD cellsAt fieldAddrD fieldD indexAddrD indexD sliceD cutD lenD minmaxD nilCheckD buildD fillD cellsD isOne ones setAll mkAgg allU allocD boxD storeD St.add buildSliceD appendD rowsOf makeD setOb getK_setOb getK_del getK_cons stripL strip guardTmp entry chunks zcells valD argsV argsW argW argU1 argU0 argsU0 argsU1 calleeOf scalarD scalarU delAll effD St.effS RK_seq RK_seq_ret RK_seq_exit RK_blk RK_blk_ret RK_blk_exit RK_loop RK_loop_ret RK_loop_exit RK_done vs_seq vs_block vs_skip vs_label vs_exit vs_ret vs_cond vs_region vs_loop vs_draw vs_range vs_scope applyW mkD rdIds lentIds callOf calleeOf freeOp D.ids Op.operands Call.operands isEffOp IntKind.bits allU2 allU2_append List.take_of_length_le List.range_succ
attribute [local irreducible] V G H HD HD2 RunK Eff CallP CallV EndOK Fun Ret FinOK LoopI LoopW EndW
theorem rests_fun (n : Nat) (M : Nat → Nat → Int) (P : Nat → Nat → Int) (hn60 : n ≤ 60) (h1 : ∀ i k, i < n → k < n → 0 ≤ P i k ∧ P i k ≤ M k i ∧ M (k + 1) i = M k i - P i k) (h2 : ∀ i k, i < n → k ≤ n → 0 ≤ M k i ∧ M k i ≤ maxC) :
    Fun Try.prog 17 [.u (ints (lst n (M 0))), .u (lists (matL n P))] (· = .u (ints (lst n (M n)))) := by
  (refine Fun.of_bodyW Try.func17 rfl (by simp) fun Γ hn => ?_); simp only [entry, List.zipIdx_cons, List.zipIdx_nil, List.map_cons, List.map_nil, Nat.zero_add, Try.ntmps17]
  repeat' (first
    | (refine H_cons ?_; simp)
    | (refine HD2_val rfl ?_; simp)
    | (refine HD_cons ?_; simp)
    | (refine HD2_chg rfl ?_; simp)
    | (refine H_nil ?_; simp)
    | (refine ⟨by omega, ?_⟩)
    | (refine V_sseq ?_; simp)
    | (refine V_scond ?_; simp)
    | (refine HD2_nil (hC _ (by kernel_rfl)) (hk _ ?_); clear hC hk C k; simp only [RK_seq, RK_seq_ret, RK_seq_exit, RK_blk, RK_blk_ret, RK_blk_exit, RK_loop, RK_loop_ret, RK_loop_exit, RK_done])
    | (refine HD_nil ?_)
    | (refine hk _ ?_; clear hk k; simp only [RK_seq, RK_seq_ret, RK_seq_exit, RK_blk, RK_blk_ret, RK_blk_exit, RK_loop, RK_loop_ret, RK_loop_exit, RK_done])
    | (refine V_drawV rfl (by kernel_rfl) (by kernel_rfl) fun k hk => ?_; simp)
    | (refine V_drawN rfl (by kernel_rfl) (by kernel_rfl) (by simp [hn]) fun C k hC hk => ?_; simp)
    | (refine HD3_val rfl ?_; simp)
    | (refine HD3_put ?_; simp)
    | (refine HD3_chg rfl rfl ?_; simp)
    | (refine HD3_nil (hC _ _ (by kernel_rfl) (by kernel_rfl)) (hk _ ?_); clear hC hk C k; simp only [RK_seq, RK_seq_ret, RK_seq_exit, RK_blk, RK_blk_ret, RK_blk_exit, RK_loop, RK_loop_ret, RK_loop_exit, RK_done]; simp [St.ins, insL, putE, getK_setOb, getK_cons])
    | (refine V_drawE rfl (by kernel_rfl) (by kernel_rfl) (by simp [hn]) fun C k hC hk => ?_; simp)
    | (refine HD_guardU rfl (by simp) ?_; simp)
    | (refine HD_guard rfl (by simp) (fun hc => ?_) (fun hc => ?_) <;> (try simp at hc) <;> (try (exfalso; omega)) <;> (try simp))
    | (refine HD2_guardU rfl (by simp) ?_; simp)
    | (refine HD2_guard rfl (by simp) (fun hc => ?_) (fun hc => ?_) <;> (try simp at hc) <;> (try (exfalso; omega)) <;> (try simp))
    | (refine V_sblock ?_; simp)
    | (refine V_sregion ?_; simp)
    | (refine V_ret ?_; simp only [RK_seq, RK_seq_ret, RK_seq_exit, RK_blk, RK_blk_ret, RK_blk_exit, RK_loop, RK_loop_ret, RK_loop_exit, RK_done])
    | (refine V_skip ?_; simp only [RK_seq, RK_seq_ret, RK_seq_exit, RK_blk, RK_blk_ret, RK_blk_exit, RK_loop, RK_loop_ret, RK_loop_exit, RK_done])
    | (refine V_exit ?_; simp [RK_seq, RK_seq_ret, RK_seq_exit, RK_blk, RK_blk_ret, RK_blk_exit, RK_loop, RK_loop_ret, RK_loop_exit, RK_done])
    | (refine ⟨?_, by omega⟩)
    | (refine ⟨fun hc => ?_, fun hc => ?_⟩ <;> (try (exfalso; omega)))
    | (intro hc <;> (try (exfalso; omega))))
  refine V_wk _ (Wk.own 5 3 1 (by decide) rfl) ?_
  simp [St.own]
  refine V_loopO (α := { i : Nat // i ≤ n }) [0, 1] (fun i => [(5, .vec 0 i.1), (6, .u (.int .i64 i.1))]) (fun i => [(0, .vec 3 1 (intR (lst i.1 (M n))))]) 1 (fun i => n - i.1) ⟨0, by omega⟩ ?_ ?_
  · exact (Wk.cut rfl (by simp [hn, St.lp]) (by simp [wkO, St.lp, getK_cons, getK, Ob.under, D.under, under_rowsD, under_entD, intR, lst]) (by simp [wkU, St.lp, keepE, getK_cons, getK, D.under, intR, lst]) (by simp [wkE, St.lp, keepE, getK_cons, getK, intR, lst] <;> (try (intros; simp_all; done)) <;> (try (intros; omega)) <;> (try grind)))
  rintro ⟨i, hi⟩
  simp [St.lp, St.only, keepE, getK_cons, getK]
  by_cases hlt : i < n
  case neg =>
    obtain rfl : i = n := by omega
    repeat' (first
    | (refine H_cons ?_; simp [lst_len])
    | (refine HD2_val rfl ?_; simp [lst_len])
    | (refine HD_cons ?_; simp [lst_len])
    | (refine HD2_chg rfl ?_; simp [lst_len])
    | (refine H_nil ?_; simp [lst_len])
    | (refine ⟨by omega, ?_⟩)
    | (refine V_sseq ?_; simp [lst_len])
    | (refine V_scond ?_; simp [lst_len])
    | (refine HD2_nil (hC _ (by kernel_rfl)) (hk _ ?_); clear hC hk C k; simp only [RK_seq, RK_seq_ret, RK_seq_exit, RK_blk, RK_blk_ret, RK_blk_exit, RK_loop, RK_loop_ret, RK_loop_exit, RK_done])
    | (refine HD_nil ?_)
    | (refine hk _ ?_; clear hk k; simp only [RK_seq, RK_seq_ret, RK_seq_exit, RK_blk, RK_blk_ret, RK_blk_exit, RK_loop, RK_loop_ret, RK_loop_exit, RK_done])
    | (refine V_drawV rfl (by kernel_rfl) (by kernel_rfl) fun k hk => ?_; simp [lst_len])
    | (refine V_drawN rfl (by kernel_rfl) (by kernel_rfl) (by simp [hn]) fun C k hC hk => ?_; simp [lst_len])
    | (refine HD3_val rfl ?_; simp [lst_len])
    | (refine HD3_put ?_; simp [lst_len])
    | (refine HD3_chg rfl rfl ?_; simp [lst_len])
    | (refine HD3_nil (hC _ _ (by kernel_rfl) (by kernel_rfl)) (hk _ ?_); clear hC hk C k; simp only [RK_seq, RK_seq_ret, RK_seq_exit, RK_blk, RK_blk_ret, RK_blk_exit, RK_loop, RK_loop_ret, RK_loop_exit, RK_done]; simp [St.ins, insL, putE, getK_setOb, getK_cons])
    | (refine V_drawE rfl (by kernel_rfl) (by kernel_rfl) (by simp [hn]) fun C k hC hk => ?_; simp [lst_len])
    | (refine HD_guardU rfl (by simp [lst_len]) ?_; simp [lst_len])
    | (refine HD_guard rfl (by simp [lst_len]) (fun hc => ?_) (fun hc => ?_) <;> (try simp [lst_len] at hc) <;> (try (exfalso; omega)) <;> (try simp [lst_len]))
    | (refine HD2_guardU rfl (by simp [lst_len]) ?_; simp [lst_len])
    | (refine HD2_guard rfl (by simp [lst_len]) (fun hc => ?_) (fun hc => ?_) <;> (try simp [lst_len] at hc) <;> (try (exfalso; omega)) <;> (try simp [lst_len]))
    | (refine V_sblock ?_; simp [lst_len])
    | (refine V_sregion ?_; simp [lst_len])
    | (refine V_ret ?_; simp only [RK_seq, RK_seq_ret, RK_seq_exit, RK_blk, RK_blk_ret, RK_blk_exit, RK_loop, RK_loop_ret, RK_loop_exit, RK_done])
    | (refine V_skip ?_; simp only [RK_seq, RK_seq_ret, RK_seq_exit, RK_blk, RK_blk_ret, RK_blk_exit, RK_loop, RK_loop_ret, RK_loop_exit, RK_done])
    | (refine V_exit ?_; simp [RK_seq, RK_seq_ret, RK_seq_exit, RK_blk, RK_blk_ret, RK_blk_exit, RK_loop, RK_loop_ret, RK_loop_exit, RK_done])
    | (refine ⟨?_, by omega⟩)
    | (refine ⟨fun hc => ?_, fun hc => ?_⟩ <;> (try (exfalso; omega)))
    | (intro hc <;> (try (exfalso; omega))))
    (refine EndW.frzN 1 ?_; simp [frzN, frz1, frz_env, frz_obs, St.frz, St.frzS, frzS, fv, fzVec, fzMap, fzBox, frzObS, frz_entD, frz_rowsD, del, frz, frzOb, intR_all, intR_len, lst_len])
    refine EndW.norm (EndW.here ?_)
    (refine EndOK.val (.inr rfl) ?_; simp [resD, oneOrTup, pureD, Try.results17, frz_obs, frz_env, norm_obs, norm_env, frz, frzOb, frzS, fv, fzVec, fzMap, fzBox, frzObS, frz_entD, frz_rowsD, normD, normU, norm1, normOb, intR_all, intR_len, lst_len])
  have hx := lst_get (M 0) hlt
  have hrow := matL_get P hlt
  repeat' (first
    | (refine H_cons ?_; simp [hx, lst_len])
    | (refine HD2_val rfl ?_; simp [hx, lst_len])
    | (refine HD_cons ?_; simp [hx, lst_len])
    | (refine HD2_chg rfl ?_; simp [hx, lst_len])
    | (refine H_nil ?_; simp [hx, lst_len])
    | (refine ⟨by omega, ?_⟩)
    | (refine V_sseq ?_; simp [hx, lst_len])
    | (refine V_scond ?_; simp [hx, lst_len])
    | (refine HD2_nil (hC _ (by kernel_rfl)) (hk _ ?_); clear hC hk C k; simp only [RK_seq, RK_seq_ret, RK_seq_exit, RK_blk, RK_blk_ret, RK_blk_exit, RK_loop, RK_loop_ret, RK_loop_exit, RK_done])
    | (refine HD_nil ?_)
    | (refine hk _ ?_; clear hk k; simp only [RK_seq, RK_seq_ret, RK_seq_exit, RK_blk, RK_blk_ret, RK_blk_exit, RK_loop, RK_loop_ret, RK_loop_exit, RK_done])
    | (refine V_drawV rfl (by kernel_rfl) (by kernel_rfl) fun k hk => ?_; simp [hx, lst_len])
    | (refine V_drawN rfl (by kernel_rfl) (by kernel_rfl) (by simp [hn]) fun C k hC hk => ?_; simp [hx, lst_len])
    | (refine HD3_val rfl ?_; simp [hx, lst_len])
    | (refine HD3_put ?_; simp [hx, lst_len])
    | (refine HD3_chg rfl rfl ?_; simp [hx, lst_len])
    | (refine HD3_nil (hC _ _ (by kernel_rfl) (by kernel_rfl)) (hk _ ?_); clear hC hk C k; simp only [RK_seq, RK_seq_ret, RK_seq_exit, RK_blk, RK_blk_ret, RK_blk_exit, RK_loop, RK_loop_ret, RK_loop_exit, RK_done]; simp [St.ins, insL, putE, getK_setOb, getK_cons])
    | (refine V_drawE rfl (by kernel_rfl) (by kernel_rfl) (by simp [hn]) fun C k hC hk => ?_; simp [hx, lst_len])
    | (refine HD_guardU rfl (by simp [hx, lst_len]) ?_; simp [hx, lst_len])
    | (refine HD_guard rfl (by simp [hx, lst_len]) (fun hc => ?_) (fun hc => ?_) <;> (try simp [hx, lst_len] at hc) <;> (try (exfalso; omega)) <;> (try simp [hx, lst_len]))
    | (refine HD2_guardU rfl (by simp [hx, lst_len]) ?_; simp [hx, lst_len])
    | (refine HD2_guard rfl (by simp [hx, lst_len]) (fun hc => ?_) (fun hc => ?_) <;> (try simp [hx, lst_len] at hc) <;> (try (exfalso; omega)) <;> (try simp [hx, lst_len]))
    | (refine V_sblock ?_; simp [hx, lst_len])
    | (refine V_sregion ?_; simp [hx, lst_len])
    | (refine V_ret ?_; simp only [RK_seq, RK_seq_ret, RK_seq_exit, RK_blk, RK_blk_ret, RK_blk_exit, RK_loop, RK_loop_ret, RK_loop_exit, RK_done])
    | (refine V_skip ?_; simp only [RK_seq, RK_seq_ret, RK_seq_exit, RK_blk, RK_blk_ret, RK_blk_exit, RK_loop, RK_loop_ret, RK_loop_exit, RK_done])
    | (refine V_exit ?_; simp [RK_seq, RK_seq_ret, RK_seq_exit, RK_blk, RK_blk_ret, RK_blk_exit, RK_loop, RK_loop_ret, RK_loop_exit, RK_done])
    | (refine ⟨?_, by omega⟩)
    | (refine ⟨fun hc => ?_, fun hc => ?_⟩ <;> (try (exfalso; omega)))
    | (intro hc <;> (try (exfalso; omega))))
  refine V_loopO (α := { k : Nat // k ≤ n }) [0, 1, 5, 6] (fun k => [(7, .u (.int .i64 (M k.1 i))), (8, .u (.int .i64 k.1))]) (fun _ => [(0, .vec 3 1 (intR (lst i (M n))))]) 1 (fun k => n - k.1) ⟨0, by omega⟩ ?_ ?_
  · exact (Wk.cut rfl (by simp [hn, St.lp]) (by simp [wkO, St.lp, getK_cons, getK, Ob.under, D.under, under_rowsD, under_entD, pure_intR, under_intR]) (by simp [wkU, St.lp, keepE, getK_cons, getK, D.under, pure_intR, under_intR]) (by simp [wkE, St.lp, keepE, getK_cons, getK, pure_intR, under_intR] <;> (try (intros; simp_all; done)) <;> (try (intros; omega)) <;> (try grind)))
  rintro ⟨k, hk⟩
  simp [St.lp, St.only, keepE, getK_cons, getK]
  by_cases hlk : k < n
  · have hp := lst_get (P i) hlk
    obtain ⟨p0, p1, p2⟩ := h1 i k hlt hlk
    have hMk := h2 i k hlt hk
    simp only [maxC] at hMk
    have q0 : ¬ P i k < 0 := by omega
    have q1 : ¬ M k i < P i k := by omega
    have q2 := p2.symm
    repeat' (first
    | (refine H_cons ?_; simp [hrow, lst_getE, lst_len, hlk, q0, q1, q2])
    | (refine HD2_val rfl ?_; simp [hrow, lst_getE, lst_len, hlk, q0, q1, q2])
    | (refine HD_cons ?_; simp [hrow, lst_getE, lst_len, hlk, q0, q1, q2])
    | (refine HD2_chg rfl ?_; simp [hrow, lst_getE, lst_len, hlk, q0, q1, q2])
    | (refine H_nil ?_; simp [hrow, lst_getE, lst_len, hlk, q0, q1, q2])
    | (refine ⟨by omega, ?_⟩)
    | (refine V_sseq ?_; simp [hrow, lst_getE, lst_len, hlk, q0, q1, q2])
    | (refine V_scond ?_; simp [hrow, lst_getE, lst_len, hlk, q0, q1, q2])
    | (refine HD2_nil (hC _ (by kernel_rfl)) (hk _ ?_); clear hC hk C k; simp only [RK_seq, RK_seq_ret, RK_seq_exit, RK_blk, RK_blk_ret, RK_blk_exit, RK_loop, RK_loop_ret, RK_loop_exit, RK_done])
    | (refine HD_nil ?_)
    | (refine hk _ ?_; clear hk k; simp only [RK_seq, RK_seq_ret, RK_seq_exit, RK_blk, RK_blk_ret, RK_blk_exit, RK_loop, RK_loop_ret, RK_loop_exit, RK_done])
    | (refine V_drawV rfl (by kernel_rfl) (by kernel_rfl) fun k hk => ?_; simp [hrow, lst_getE, lst_len, hlk, q0, q1, q2])
    | (refine V_drawN rfl (by kernel_rfl) (by kernel_rfl) (by simp [hn]) fun C k hC hk => ?_; simp [hrow, lst_getE, lst_len, hlk, q0, q1, q2])
    | (refine HD3_val rfl ?_; simp [hrow, lst_getE, lst_len, hlk, q0, q1, q2])
    | (refine HD3_put ?_; simp [hrow, lst_getE, lst_len, hlk, q0, q1, q2])
    | (refine HD3_chg rfl rfl ?_; simp [hrow, lst_getE, lst_len, hlk, q0, q1, q2])
    | (refine HD3_nil (hC _ _ (by kernel_rfl) (by kernel_rfl)) (hk _ ?_); clear hC hk C k; simp only [RK_seq, RK_seq_ret, RK_seq_exit, RK_blk, RK_blk_ret, RK_blk_exit, RK_loop, RK_loop_ret, RK_loop_exit, RK_done]; simp [St.ins, insL, putE, getK_setOb, getK_cons])
    | (refine V_drawE rfl (by kernel_rfl) (by kernel_rfl) (by simp [hn]) fun C k hC hk => ?_; simp [hrow, lst_getE, lst_len, hlk, q0, q1, q2])
    | (refine HD_guardU rfl (by simp [hrow, lst_getE, lst_len, hlk, q0, q1, q2]) ?_; simp [hrow, lst_getE, lst_len, hlk, q0, q1, q2])
    | (refine HD_guard rfl (by simp [hrow, lst_getE, lst_len, hlk, q0, q1, q2]) (fun hc => ?_) (fun hc => ?_) <;> (try simp [hrow, lst_getE, lst_len, hlk, q0, q1, q2] at hc) <;> (try (exfalso; omega)) <;> (try simp [hrow, lst_getE, lst_len, hlk, q0, q1, q2]))
    | (refine HD2_guardU rfl (by simp [hrow, lst_getE, lst_len, hlk, q0, q1, q2]) ?_; simp [hrow, lst_getE, lst_len, hlk, q0, q1, q2])
    | (refine HD2_guard rfl (by simp [hrow, lst_getE, lst_len, hlk, q0, q1, q2]) (fun hc => ?_) (fun hc => ?_) <;> (try simp [hrow, lst_getE, lst_len, hlk, q0, q1, q2] at hc) <;> (try (exfalso; omega)) <;> (try simp [hrow, lst_getE, lst_len, hlk, q0, q1, q2]))
    | (refine V_sblock ?_; simp [hrow, lst_getE, lst_len, hlk, q0, q1, q2])
    | (refine V_sregion ?_; simp [hrow, lst_getE, lst_len, hlk, q0, q1, q2])
    | (refine V_ret ?_; simp only [RK_seq, RK_seq_ret, RK_seq_exit, RK_blk, RK_blk_ret, RK_blk_exit, RK_loop, RK_loop_ret, RK_loop_exit, RK_done])
    | (refine V_skip ?_; simp only [RK_seq, RK_seq_ret, RK_seq_exit, RK_blk, RK_blk_ret, RK_blk_exit, RK_loop, RK_loop_ret, RK_loop_exit, RK_done])
    | (refine V_exit ?_; simp [RK_seq, RK_seq_ret, RK_seq_exit, RK_blk, RK_blk_ret, RK_blk_exit, RK_loop, RK_loop_ret, RK_loop_exit, RK_done])
    | (refine ⟨?_, by omega⟩)
    | (refine ⟨fun hc => ?_, fun hc => ?_⟩ <;> (try (exfalso; omega)))
    | (intro hc <;> (try (exfalso; omega))))
    refine LoopW.next ⟨k + 1, by omega⟩ (by simp; omega) ?_
    exact (Wk.cut rfl (by simp [hn, St.lp]) (by simp [wkO, St.lp, getK_cons, getK, Ob.under, D.under, under_rowsD, under_entD, pure_intR, under_intR, q2]) (by simp [wkU, St.lp, keepE, getK_cons, getK, D.under, pure_intR, under_intR, q2]) (by simp [wkE, St.lp, keepE, getK_cons, getK, pure_intR, under_intR, q2] <;> (try (intros; simp_all; done)) <;> (try (intros; omega)) <;> (try grind)))
  · obtain rfl : k = n := by omega
    have hap : intR (lst i (M k)) ++ [[D.u (.int .i64 (M k i))]] = intR (lst (i + 1) (M k)) := by rw [lst_snoc]; simp [intR]
    have hlr : lenR 1 (intR (lst i (M k))) := by simp [intR]
    repeat' (first
    | (refine H_cons ?_; simp [hrow, lst_len, hap, hlr, intR_len])
    | (refine HD2_val rfl ?_; simp [hrow, lst_len, hap, hlr, intR_len])
    | (refine HD_cons ?_; simp [hrow, lst_len, hap, hlr, intR_len])
    | (refine HD2_chg rfl ?_; simp [hrow, lst_len, hap, hlr, intR_len])
    | (refine H_nil ?_; simp [hrow, lst_len, hap, hlr, intR_len])
    | (refine ⟨by omega, ?_⟩)
    | (refine V_sseq ?_; simp [hrow, lst_len, hap, hlr, intR_len])
    | (refine V_scond ?_; simp [hrow, lst_len, hap, hlr, intR_len])
    | (refine HD2_nil (hC _ (by kernel_rfl)) (hk _ ?_); clear hC hk C k; simp only [RK_seq, RK_seq_ret, RK_seq_exit, RK_blk, RK_blk_ret, RK_blk_exit, RK_loop, RK_loop_ret, RK_loop_exit, RK_done])
    | (refine HD_nil ?_)
    | (refine hk _ ?_; clear hk k; simp only [RK_seq, RK_seq_ret, RK_seq_exit, RK_blk, RK_blk_ret, RK_blk_exit, RK_loop, RK_loop_ret, RK_loop_exit, RK_done])
    | (refine V_drawV rfl (by kernel_rfl) (by kernel_rfl) fun k hk => ?_; simp [hrow, lst_len, hap, hlr, intR_len])
    | (refine V_drawN rfl (by kernel_rfl) (by kernel_rfl) (by simp [hn]) fun C k hC hk => ?_; simp [hrow, lst_len, hap, hlr, intR_len])
    | (refine HD3_val rfl ?_; simp [hrow, lst_len, hap, hlr, intR_len])
    | (refine HD3_put ?_; simp [hrow, lst_len, hap, hlr, intR_len])
    | (refine HD3_chg rfl rfl ?_; simp [hrow, lst_len, hap, hlr, intR_len])
    | (refine HD3_nil (hC _ _ (by kernel_rfl) (by kernel_rfl)) (hk _ ?_); clear hC hk C k; simp only [RK_seq, RK_seq_ret, RK_seq_exit, RK_blk, RK_blk_ret, RK_blk_exit, RK_loop, RK_loop_ret, RK_loop_exit, RK_done]; simp [St.ins, insL, putE, getK_setOb, getK_cons])
    | (refine V_drawE rfl (by kernel_rfl) (by kernel_rfl) (by simp [hn]) fun C k hC hk => ?_; simp [hrow, lst_len, hap, hlr, intR_len])
    | (refine HD_guardU rfl (by simp [hrow, lst_len, hap, hlr, intR_len]) ?_; simp [hrow, lst_len, hap, hlr, intR_len])
    | (refine HD_guard rfl (by simp [hrow, lst_len, hap, hlr, intR_len]) (fun hc => ?_) (fun hc => ?_) <;> (try simp [hrow, lst_len, hap, hlr, intR_len] at hc) <;> (try (exfalso; omega)) <;> (try simp [hrow, lst_len, hap, hlr, intR_len]))
    | (refine HD2_guardU rfl (by simp [hrow, lst_len, hap, hlr, intR_len]) ?_; simp [hrow, lst_len, hap, hlr, intR_len])
    | (refine HD2_guard rfl (by simp [hrow, lst_len, hap, hlr, intR_len]) (fun hc => ?_) (fun hc => ?_) <;> (try simp [hrow, lst_len, hap, hlr, intR_len] at hc) <;> (try (exfalso; omega)) <;> (try simp [hrow, lst_len, hap, hlr, intR_len]))
    | (refine V_sblock ?_; simp [hrow, lst_len, hap, hlr, intR_len])
    | (refine V_sregion ?_; simp [hrow, lst_len, hap, hlr, intR_len])
    | (refine V_ret ?_; simp only [RK_seq, RK_seq_ret, RK_seq_exit, RK_blk, RK_blk_ret, RK_blk_exit, RK_loop, RK_loop_ret, RK_loop_exit, RK_done])
    | (refine V_skip ?_; simp only [RK_seq, RK_seq_ret, RK_seq_exit, RK_blk, RK_blk_ret, RK_blk_exit, RK_loop, RK_loop_ret, RK_loop_exit, RK_done])
    | (refine V_exit ?_; simp [RK_seq, RK_seq_ret, RK_seq_exit, RK_blk, RK_blk_ret, RK_blk_exit, RK_loop, RK_loop_ret, RK_loop_exit, RK_done])
    | (refine ⟨?_, by omega⟩)
    | (refine ⟨fun hc => ?_, fun hc => ?_⟩ <;> (try (exfalso; omega)))
    | (intro hc <;> (try (exfalso; omega))))
    refine LoopW.next ⟨i + 1, by omega⟩ (by simp; omega) ?_
    exact (Wk.ren ((fun i => if i = 0 then 2 else i)) rfl (by first | (simp [hn]; done) | (intro i hi; rw [hn] at hi; constructor <;> (try simp) <;> (try (intro _)) <;> omega)) (by simp [wkER, St.lp, keepE, getK_cons, getK, getK_del, getK_setOb, D.under, D.le, D.ren, pure_intR, under_intR, lst_len] <;> (try (intros; simp_all; done)) <;> (try omega)) (by simp [wkR, St.lp, getK_cons, getK, getK_del, getK_setOb, obR, leU, pureRow, pureRows, Ob.under, D.under, D.le, D.ren, pure_intR, under_intR, lst_len] <;> (try (intros; simp_all; done)) <;> (try omega)) (by simp [pure_intR, under_intR, lst_len]))
end Go.Proofs.Ytjmddlekokodfaa
