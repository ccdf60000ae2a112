/- Layer 23: the reference's Draw: the walk. -/
import Derived.Test.YtmebfcehkfaiaaaTd
set_option linter.all false
set_option maxRecDepth 100000
set_option maxHeartbeats 8000000
set_option linter.all false
namespace Go.Proofs.Ytmebfcehkfaiaaa
open Go Go.VL
theorem first_eq (s : Int) : (s.tmod 2147483648 + 2147483648).tmod 2147483648 = s % 2147483648 := by
  have h1 := Int.lt_tmod_of_pos s (show (0 : Int) < 2147483648 by omega)
  rw [Int.tmod_eq_emod_of_nonneg (by omega)]
  have h2 : s.tmod 2147483648 = s - 2147483648 * s.tdiv 2147483648 := by have := Int.mul_tdiv_add_tmod s 2147483648; omega
  omega
theorem after_eq (x : Int) (h0 : 0 ≤ x) : (1103515245 * x + 12345).tmod 2147483648 = nxS x := by
  rw [Int.tmod_eq_emod_of_nonneg (by omega)]; rfl
theorem pure_intR (l : List Int) : pureRows (intR l) := by
  induction l with
  | nil => simp [intR, pureRows]
  | cons a l ih => simp only [intR] at ih; simp [intR, pureRows, pureRow, ih]
theorem under_intR (n : Nat) (l : List Int) : (∀ x ∈ intR l, ∀ y ∈ x, D.under n y = true) ↔ True := by simp [intR, D.under]
attribute [local simp] hcons hstep evPure opd uOf putOK St.put St.at getK binD binI binS binB nilD aggD eqUs cmpK lookD lookR rangeD nextD entryD keyD valU keyU lookK mkV entD_nil lookK_entD updK_entD1 updK_entD2 updK_entD3 allUE allUE_entD makeMapD mapUpdD mapEff updK valM Key.kk shiftI arith unD convD pickD loadD cellsAt fieldAddrD fieldD indexAddrD indexD sliceD cutD lenD minmaxD nilCheckD buildD fillD cellsD isOne ones setAll mkAgg allU allocD boxD storeD St.add buildSliceD appendD rowsOf makeD setOb getK_setOb getK_del getK_cons stripL strip guardTmp entry chunks zcells valD argsV argsW argW argU1 argU0 argsU0 argsU1 calleeOf scalarD scalarU delAll effD St.effS RK_seq RK_seq_ret RK_seq_exit RK_blk RK_blk_ret RK_blk_exit RK_loop RK_loop_ret RK_loop_exit RK_done vs_seq vs_block vs_skip vs_label vs_exit vs_ret vs_cond vs_region vs_loop vs_draw vs_range vs_scope applyW mkD rdIds lentIds callOf calleeOf freeOp D.ids Op.operands Call.operands isEffOp IntKind.bits allU2 allU2_append List.take_of_length_le List.range_succ
attribute [local irreducible] V G H HD HD2 RunK Eff CallP CallV EndOK Fun Ret FinOK LoopI LoopW EndW
theorem first_fun (s : Int) : Fun Try.prog 24 [.u (.int .i64 s)] (· = .u (.int .i64 (xsS s 0))) := by
  have h1 := Int.lt_tmod_of_pos s (show (0 : Int) < 2147483648 by omega)
  have h2 := Int.tmod_lt_of_pos s (show (0 : Int) < 2147483648 by omega)
  have h3 := first_eq s
  (refine Fun.of_body Try.func24 rfl (by simp) fun Γ hn => ?_); simp only [entry, List.zipIdx_cons, List.zipIdx_nil, List.map_cons, List.map_nil, Nat.zero_add, Try.ntmps24]
  repeat' (first
    | (refine H_cons ?_; simp)
    | (refine HD2_val rfl ?_; simp)
    | (refine HD_cons ?_; simp)
    | (refine HD2_chg rfl ?_; simp)
    | (refine H_nil ?_; simp)
    | (refine ⟨by omega, ?_⟩)
    | (refine V_sseq ?_; simp)
    | (refine V_scond ?_; simp)
    | (refine HD2_nil (hC _ (by kernel_rfl)) (hk _ ?_); clear hC hk C k; simp only [RK_seq, RK_seq_ret, RK_seq_exit, RK_blk, RK_blk_ret, RK_blk_exit, RK_loop, RK_loop_ret, RK_loop_exit, RK_done])
    | (refine HD_nil ?_)
    | (refine hk _ ?_; clear hk k; simp only [RK_seq, RK_seq_ret, RK_seq_exit, RK_blk, RK_blk_ret, RK_blk_exit, RK_loop, RK_loop_ret, RK_loop_exit, RK_done])
    | (refine V_drawV rfl (by kernel_rfl) (by kernel_rfl) fun k hk => ?_; simp)
    | (refine V_drawN rfl (by kernel_rfl) (by kernel_rfl) (by simp [hn]) fun C k hC hk => ?_; simp)
    | (refine HD3_val rfl ?_; simp)
    | (refine HD3_put ?_; simp)
    | (refine HD3_chg rfl rfl ?_; simp)
    | (refine HD3_nil (hC _ _ (by kernel_rfl) (by kernel_rfl)) (hk _ ?_); clear hC hk C k; simp only [RK_seq, RK_seq_ret, RK_seq_exit, RK_blk, RK_blk_ret, RK_blk_exit, RK_loop, RK_loop_ret, RK_loop_exit, RK_done]; simp [St.ins, insL, putE, getK_setOb, getK_cons])
    | (refine V_drawE rfl (by kernel_rfl) (by kernel_rfl) (by simp [hn]) fun C k hC hk => ?_; simp)
    | (refine HD_guardU rfl (by simp) ?_; simp)
    | (refine HD_guard rfl (by simp) (fun hc => ?_) (fun hc => ?_) <;> (try simp at hc) <;> (try (exfalso; omega)) <;> (try simp))
    | (refine HD2_guardU rfl (by simp) ?_; simp)
    | (refine HD2_guard rfl (by simp) (fun hc => ?_) (fun hc => ?_) <;> (try simp at hc) <;> (try (exfalso; omega)) <;> (try simp))
    | (refine V_sblock ?_; simp)
    | (refine V_sregion ?_; simp)
    | (refine V_ret ?_; simp only [RK_seq, RK_seq_ret, RK_seq_exit, RK_blk, RK_blk_ret, RK_blk_exit, RK_loop, RK_loop_ret, RK_loop_exit, RK_done])
    | (refine V_skip ?_; simp only [RK_seq, RK_seq_ret, RK_seq_exit, RK_blk, RK_blk_ret, RK_blk_exit, RK_loop, RK_loop_ret, RK_loop_exit, RK_done])
    | (refine V_exit ?_; simp [RK_seq, RK_seq_ret, RK_seq_exit, RK_blk, RK_blk_ret, RK_blk_exit, RK_loop, RK_loop_ret, RK_loop_exit, RK_done])
    | (refine ⟨?_, by omega⟩)
    | (refine ⟨fun hc => ?_, fun hc => ?_⟩ <;> (try (exfalso; omega)))
    | (intro hc <;> (try (exfalso; omega))))
  (refine EndOK.val (.inr rfl) ?_; simp [resD, oneOrTup, pureD, Try.results24])
  simp [h3, xsS]
theorem after_fun (x : Int) (h0 : 0 ≤ x) (h1 : x < 2147483648) : Fun Try.prog 25 [.u (.int .i64 x)] (· = .u (.int .i64 (nxS x))) := by
  have h3 := after_eq x h0
  (refine Fun.of_body Try.func25 rfl (by simp) fun Γ hn => ?_); simp only [entry, List.zipIdx_cons, List.zipIdx_nil, List.map_cons, List.map_nil, Nat.zero_add, Try.ntmps25]
  repeat' (first
    | (refine H_cons ?_; simp)
    | (refine HD2_val rfl ?_; simp)
    | (refine HD_cons ?_; simp)
    | (refine HD2_chg rfl ?_; simp)
    | (refine H_nil ?_; simp)
    | (refine ⟨by omega, ?_⟩)
    | (refine V_sseq ?_; simp)
    | (refine V_scond ?_; simp)
    | (refine HD2_nil (hC _ (by kernel_rfl)) (hk _ ?_); clear hC hk C k; simp only [RK_seq, RK_seq_ret, RK_seq_exit, RK_blk, RK_blk_ret, RK_blk_exit, RK_loop, RK_loop_ret, RK_loop_exit, RK_done])
    | (refine HD_nil ?_)
    | (refine hk _ ?_; clear hk k; simp only [RK_seq, RK_seq_ret, RK_seq_exit, RK_blk, RK_blk_ret, RK_blk_exit, RK_loop, RK_loop_ret, RK_loop_exit, RK_done])
    | (refine V_drawV rfl (by kernel_rfl) (by kernel_rfl) fun k hk => ?_; simp)
    | (refine V_drawN rfl (by kernel_rfl) (by kernel_rfl) (by simp [hn]) fun C k hC hk => ?_; simp)
    | (refine HD3_val rfl ?_; simp)
    | (refine HD3_put ?_; simp)
    | (refine HD3_chg rfl rfl ?_; simp)
    | (refine HD3_nil (hC _ _ (by kernel_rfl) (by kernel_rfl)) (hk _ ?_); clear hC hk C k; simp only [RK_seq, RK_seq_ret, RK_seq_exit, RK_blk, RK_blk_ret, RK_blk_exit, RK_loop, RK_loop_ret, RK_loop_exit, RK_done]; simp [St.ins, insL, putE, getK_setOb, getK_cons])
    | (refine V_drawE rfl (by kernel_rfl) (by kernel_rfl) (by simp [hn]) fun C k hC hk => ?_; simp)
    | (refine HD_guardU rfl (by simp) ?_; simp)
    | (refine HD_guard rfl (by simp) (fun hc => ?_) (fun hc => ?_) <;> (try simp at hc) <;> (try (exfalso; omega)) <;> (try simp))
    | (refine HD2_guardU rfl (by simp) ?_; simp)
    | (refine HD2_guard rfl (by simp) (fun hc => ?_) (fun hc => ?_) <;> (try simp at hc) <;> (try (exfalso; omega)) <;> (try simp))
    | (refine V_sblock ?_; simp)
    | (refine V_sregion ?_; simp)
    | (refine V_ret ?_; simp only [RK_seq, RK_seq_ret, RK_seq_exit, RK_blk, RK_blk_ret, RK_blk_exit, RK_loop, RK_loop_ret, RK_loop_exit, RK_done])
    | (refine V_skip ?_; simp only [RK_seq, RK_seq_ret, RK_seq_exit, RK_blk, RK_blk_ret, RK_blk_exit, RK_loop, RK_loop_ret, RK_loop_exit, RK_done])
    | (refine V_exit ?_; simp [RK_seq, RK_seq_ret, RK_seq_exit, RK_blk, RK_blk_ret, RK_blk_exit, RK_loop, RK_loop_ret, RK_loop_exit, RK_done])
    | (refine ⟨?_, by omega⟩)
    | (refine ⟨fun hc => ?_, fun hc => ?_⟩ <;> (try (exfalso; omega)))
    | (intro hc <;> (try (exfalso; omega))))
  (refine EndOK.val (.inr rfl) ?_; simp [resD, oneOrTup, pureD, Try.results25])
  simp [h3]
theorem rdraw_fun (s n k : Int) : Fun Try.prog 15 [.u (.int .i64 s), .u (.int .i64 n), .u (.int .i64 k)] (· = .u (ints (drawS s n k))) := by
  by_cases hv : n < 0 ∨ 4000 < n ∨ k < 0 ∨ n < k
  · have hd : drawS s n k = [] := by simp [drawS, hv]
    rw [hd]
    (refine Fun.of_bodyW Try.func15 rfl (by simp) fun Γ hn => ?_); simp only [entry, List.zipIdx_cons, List.zipIdx_nil, List.map_cons, List.map_nil, Nat.zero_add, Try.ntmps15]
    repeat' (first
    | (refine H_cons ?_; simp)
    | (refine HD2_val rfl ?_; simp)
    | (refine HD_cons ?_; simp)
    | (refine HD2_chg rfl ?_; simp)
    | (refine H_nil ?_; simp)
    | (refine ⟨by omega, ?_⟩)
    | (refine V_sseq ?_; simp)
    | (refine V_scond ?_; simp)
    | (refine HD2_nil (hC _ (by kernel_rfl)) (hk _ ?_); clear hC hk C k; simp only [RK_seq, RK_seq_ret, RK_seq_exit, RK_blk, RK_blk_ret, RK_blk_exit, RK_loop, RK_loop_ret, RK_loop_exit, RK_done])
    | (refine HD_nil ?_)
    | (refine hk _ ?_; clear hk k; simp only [RK_seq, RK_seq_ret, RK_seq_exit, RK_blk, RK_blk_ret, RK_blk_exit, RK_loop, RK_loop_ret, RK_loop_exit, RK_done])
    | (refine V_drawV rfl (by kernel_rfl) (by kernel_rfl) fun k hk => ?_; simp)
    | (refine V_drawN rfl (by kernel_rfl) (by kernel_rfl) (by simp [hn]) fun C k hC hk => ?_; simp)
    | (refine HD3_val rfl ?_; simp)
    | (refine HD3_put ?_; simp)
    | (refine HD3_chg rfl rfl ?_; simp)
    | (refine HD3_nil (hC _ _ (by kernel_rfl) (by kernel_rfl)) (hk _ ?_); clear hC hk C k; simp only [RK_seq, RK_seq_ret, RK_seq_exit, RK_blk, RK_blk_ret, RK_blk_exit, RK_loop, RK_loop_ret, RK_loop_exit, RK_done]; simp [St.ins, insL, putE, getK_setOb, getK_cons])
    | (refine V_drawE rfl (by kernel_rfl) (by kernel_rfl) (by simp [hn]) fun C k hC hk => ?_; simp)
    | (refine HD_guardU rfl (by simp) ?_; simp)
    | (refine HD_guard rfl (by simp) (fun hc => ?_) (fun hc => ?_) <;> (try simp at hc) <;> (try (exfalso; omega)) <;> (try simp))
    | (refine HD2_guardU rfl (by simp) ?_; simp)
    | (refine HD2_guard rfl (by simp) (fun hc => ?_) (fun hc => ?_) <;> (try simp at hc) <;> (try (exfalso; omega)) <;> (try simp))
    | (refine V_sblock ?_; simp)
    | (refine V_sregion ?_; simp)
    | (refine V_ret ?_; simp only [RK_seq, RK_seq_ret, RK_seq_exit, RK_blk, RK_blk_ret, RK_blk_exit, RK_loop, RK_loop_ret, RK_loop_exit, RK_done])
    | (refine V_skip ?_; simp only [RK_seq, RK_seq_ret, RK_seq_exit, RK_blk, RK_blk_ret, RK_blk_exit, RK_loop, RK_loop_ret, RK_loop_exit, RK_done])
    | (refine V_exit ?_; simp [RK_seq, RK_seq_ret, RK_seq_exit, RK_blk, RK_blk_ret, RK_blk_exit, RK_loop, RK_loop_ret, RK_loop_exit, RK_done])
    | (refine ⟨?_, by omega⟩)
    | (refine ⟨fun hc => ?_, fun hc => ?_⟩ <;> (try (exfalso; omega)))
    | (intro hc <;> (try (exfalso; omega))))
    all_goals
      refine EndW.norm (EndW.here ?_)
      (refine EndOK.val (.inr rfl) ?_; simp [resD, oneOrTup, pureD, Try.results15, frz_obs, frz_env, norm_obs, norm_env, frz, frzOb, frzS, fv, fzVec, fzMap, fzBox, frzObS, frz_entD, frz_rowsD, normD, normU, norm1, normOb])
  have hn0 : 0 ≤ n := by omega
  have hk0 : 0 ≤ k := by omega
  obtain ⟨N, rfl⟩ := Int.eq_ofNat_of_zero_le hn0
  obtain ⟨K, rfl⟩ := Int.eq_ofNat_of_zero_le hk0
  have hN : N ≤ 4000 := by omega
  have hK : K ≤ N := by omega
  have hd : drawS s N K = (drawG s N K).take K := by rw [drawS, if_neg hv]; rfl
  rw [hd]
  have hf := first_fun s
  (refine Fun.of_bodyW Try.func15 rfl (by simp) fun Γ hn => ?_); simp only [entry, List.zipIdx_cons, List.zipIdx_nil, List.map_cons, List.map_nil, Nat.zero_add, Try.ntmps15]
  repeat' (first
    | (refine H_cons ?_; simp)
    | (refine HD2_val rfl ?_; simp)
    | (refine HD_cons ?_; simp)
    | (refine HD2_chg rfl ?_; simp)
    | (refine H_nil ?_; simp)
    | (refine ⟨by omega, ?_⟩)
    | (refine V_sseq ?_; simp)
    | (refine V_scond ?_; simp)
    | (refine HD2_nil (hC _ (by kernel_rfl)) (hk _ ?_); clear hC hk C k; simp only [RK_seq, RK_seq_ret, RK_seq_exit, RK_blk, RK_blk_ret, RK_blk_exit, RK_loop, RK_loop_ret, RK_loop_exit, RK_done])
    | (refine HD_nil ?_)
    | (refine hk _ ?_; clear hk k; simp only [RK_seq, RK_seq_ret, RK_seq_exit, RK_blk, RK_blk_ret, RK_blk_exit, RK_loop, RK_loop_ret, RK_loop_exit, RK_done])
    | (refine V_drawV rfl (by kernel_rfl) (by kernel_rfl) fun k hk => ?_; simp)
    | (refine V_drawN rfl (by kernel_rfl) (by kernel_rfl) (by simp [hn]) fun C k hC hk => ?_; simp)
    | (refine HD3_val rfl ?_; simp)
    | (refine HD3_put ?_; simp)
    | (refine HD3_chg rfl rfl ?_; simp)
    | (refine HD3_nil (hC _ _ (by kernel_rfl) (by kernel_rfl)) (hk _ ?_); clear hC hk C k; simp only [RK_seq, RK_seq_ret, RK_seq_exit, RK_blk, RK_blk_ret, RK_blk_exit, RK_loop, RK_loop_ret, RK_loop_exit, RK_done]; simp [St.ins, insL, putE, getK_setOb, getK_cons])
    | (refine V_drawE rfl (by kernel_rfl) (by kernel_rfl) (by simp [hn]) fun C k hC hk => ?_; simp)
    | (refine HD_guardU rfl (by simp) ?_; simp)
    | (refine HD_guard rfl (by simp) (fun hc => ?_) (fun hc => ?_) <;> (try simp at hc) <;> (try (exfalso; omega)) <;> (try simp))
    | (refine HD2_guardU rfl (by simp) ?_; simp)
    | (refine HD2_guard rfl (by simp) (fun hc => ?_) (fun hc => ?_) <;> (try simp at hc) <;> (try (exfalso; omega)) <;> (try simp))
    | (refine V_sblock ?_; simp)
    | (refine V_sregion ?_; simp)
    | (refine V_ret ?_; simp only [RK_seq, RK_seq_ret, RK_seq_exit, RK_blk, RK_blk_ret, RK_blk_exit, RK_loop, RK_loop_ret, RK_loop_exit, RK_done])
    | (refine V_skip ?_; simp only [RK_seq, RK_seq_ret, RK_seq_exit, RK_blk, RK_blk_ret, RK_blk_exit, RK_loop, RK_loop_ret, RK_loop_exit, RK_done])
    | (refine V_exit ?_; simp [RK_seq, RK_seq_ret, RK_seq_exit, RK_blk, RK_blk_ret, RK_blk_exit, RK_loop, RK_loop_ret, RK_loop_exit, RK_done])
    | (refine ⟨?_, by omega⟩)
    | (refine ⟨fun hc => ?_, fun hc => ?_⟩ <;> (try (exfalso; omega)))
    | (intro hc <;> (try (exfalso; omega))))
  refine V_wk _ (Wk.own 7 3 1 (by decide) rfl) ?_
  simp [St.own]
  refine V_loopO (α := { i : Nat // i ≤ N }) [0, 1, 2] (fun i => [(7, .vec 0 i.1), (8, .u (.int .i64 i.1))]) (fun i => [(0, .vec 3 1 (intR ((List.range i.1).map Int.ofNat)))]) 1 (fun i => N - i.1) ⟨0, by omega⟩ ?_ ?_
  · exact (Wk.cut rfl (by simp [hn]) (by simp [wkO, St.lp, getK_cons, getK, Ob.under, D.under, under_rowsD, under_entD, intR]) (by simp [wkU, St.lp, keepE, getK_cons, getK, D.under, intR]) (by simp [wkE, St.lp, keepE, getK_cons, getK, intR] <;> (try (intros; simp_all; done)) <;> (try (intros; omega)) <;> (try grind)))
  rintro ⟨i, hi⟩
  simp [St.lp, St.only, keepE, getK_cons, getK]
  by_cases hlt : i < N
  · have hap : intR ((List.range i).map Int.ofNat) ++ [[D.u (.int .i64 (i : Int))]] = intR ((List.range (i + 1)).map Int.ofNat) := by simp [intR, List.range_succ]
    have hlr : lenR 1 (intR ((List.range i).map Int.ofNat)) := by simp [intR]
    repeat' (first
    | (refine H_cons ?_; simp [intR_len, hlt, hap, hlr])
    | (refine HD2_val rfl ?_; simp [intR_len, hlt, hap, hlr])
    | (refine HD_cons ?_; simp [intR_len, hlt, hap, hlr])
    | (refine HD2_chg rfl ?_; simp [intR_len, hlt, hap, hlr])
    | (refine H_nil ?_; simp [intR_len, hlt, hap, hlr])
    | (refine ⟨by omega, ?_⟩)
    | (refine V_sseq ?_; simp [intR_len, hlt, hap, hlr])
    | (refine V_scond ?_; simp [intR_len, hlt, hap, hlr])
    | (refine HD2_nil (hC _ (by kernel_rfl)) (hk _ ?_); clear hC hk C k; simp only [RK_seq, RK_seq_ret, RK_seq_exit, RK_blk, RK_blk_ret, RK_blk_exit, RK_loop, RK_loop_ret, RK_loop_exit, RK_done])
    | (refine HD_nil ?_)
    | (refine hk _ ?_; clear hk k; simp only [RK_seq, RK_seq_ret, RK_seq_exit, RK_blk, RK_blk_ret, RK_blk_exit, RK_loop, RK_loop_ret, RK_loop_exit, RK_done])
    | (refine V_drawV rfl (by kernel_rfl) (by kernel_rfl) fun k hk => ?_; simp [intR_len, hlt, hap, hlr])
    | (refine V_drawN rfl (by kernel_rfl) (by kernel_rfl) (by simp [hn]) fun C k hC hk => ?_; simp [intR_len, hlt, hap, hlr])
    | (refine HD3_val rfl ?_; simp [intR_len, hlt, hap, hlr])
    | (refine HD3_put ?_; simp [intR_len, hlt, hap, hlr])
    | (refine HD3_chg rfl rfl ?_; simp [intR_len, hlt, hap, hlr])
    | (refine HD3_nil (hC _ _ (by kernel_rfl) (by kernel_rfl)) (hk _ ?_); clear hC hk C k; simp only [RK_seq, RK_seq_ret, RK_seq_exit, RK_blk, RK_blk_ret, RK_blk_exit, RK_loop, RK_loop_ret, RK_loop_exit, RK_done]; simp [St.ins, insL, putE, getK_setOb, getK_cons])
    | (refine V_drawE rfl (by kernel_rfl) (by kernel_rfl) (by simp [hn]) fun C k hC hk => ?_; simp [intR_len, hlt, hap, hlr])
    | (refine HD_guardU rfl (by simp [intR_len, hlt, hap, hlr]) ?_; simp [intR_len, hlt, hap, hlr])
    | (refine HD_guard rfl (by simp [intR_len, hlt, hap, hlr]) (fun hc => ?_) (fun hc => ?_) <;> (try simp [intR_len, hlt, hap, hlr] at hc) <;> (try (exfalso; omega)) <;> (try simp [intR_len, hlt, hap, hlr]))
    | (refine HD2_guardU rfl (by simp [intR_len, hlt, hap, hlr]) ?_; simp [intR_len, hlt, hap, hlr])
    | (refine HD2_guard rfl (by simp [intR_len, hlt, hap, hlr]) (fun hc => ?_) (fun hc => ?_) <;> (try simp [intR_len, hlt, hap, hlr] at hc) <;> (try (exfalso; omega)) <;> (try simp [intR_len, hlt, hap, hlr]))
    | (refine V_sblock ?_; simp [intR_len, hlt, hap, hlr])
    | (refine V_sregion ?_; simp [intR_len, hlt, hap, hlr])
    | (refine V_ret ?_; simp only [RK_seq, RK_seq_ret, RK_seq_exit, RK_blk, RK_blk_ret, RK_blk_exit, RK_loop, RK_loop_ret, RK_loop_exit, RK_done])
    | (refine V_skip ?_; simp only [RK_seq, RK_seq_ret, RK_seq_exit, RK_blk, RK_blk_ret, RK_blk_exit, RK_loop, RK_loop_ret, RK_loop_exit, RK_done])
    | (refine V_exit ?_; simp [RK_seq, RK_seq_ret, RK_seq_exit, RK_blk, RK_blk_ret, RK_blk_exit, RK_loop, RK_loop_ret, RK_loop_exit, RK_done])
    | (refine ⟨?_, by omega⟩)
    | (refine ⟨fun hc => ?_, fun hc => ?_⟩ <;> (try (exfalso; omega)))
    | (intro hc <;> (try (exfalso; omega))))
    refine LoopW.next ⟨i + 1, by omega⟩ (by simp; omega) ?_
    exact (Wk.ren ((fun i => if i = 0 then 2 else i)) rfl (by simp [hn]) (by simp [wkER, St.lp, keepE, getK_cons, getK, getK_del, getK_setOb, D.under, D.le, D.ren, pure_intR, under_intR, List.range_succ] <;> (try (intros; simp_all; done)) <;> (try omega)) (by simp [wkR, St.lp, getK_cons, getK, getK_del, getK_setOb, obR, leU, pureRow, pureRows, Ob.under, D.under, D.le, D.ren, pure_intR, under_intR, List.range_succ] <;> (try (intros; simp_all; done)) <;> (try omega)) (by simp))
  obtain rfl : i = N := by omega
  have hfx := xsS_range s 0
  repeat' (first
    | (refine H_cons ?_; simp [intR_len])
    | (refine HD2_val rfl ?_; simp [intR_len])
    | (refine HD_cons ?_; simp [intR_len])
    | (refine HD2_chg rfl ?_; simp [intR_len])
    | (refine H_nil ?_; simp [intR_len])
    | (refine ⟨by omega, ?_⟩)
    | (refine V_sseq ?_; simp [intR_len])
    | (refine V_scond ?_; simp [intR_len])
    | (refine HD2_nil (hC _ (by kernel_rfl)) (hk _ ?_); clear hC hk C k; simp only [RK_seq, RK_seq_ret, RK_seq_exit, RK_blk, RK_blk_ret, RK_blk_exit, RK_loop, RK_loop_ret, RK_loop_exit, RK_done])
    | (refine HD_nil ?_)
    | (refine hk _ ?_; clear hk k; simp only [RK_seq, RK_seq_ret, RK_seq_exit, RK_blk, RK_blk_ret, RK_blk_exit, RK_loop, RK_loop_ret, RK_loop_exit, RK_done])
    | (refine V_drawV rfl (by kernel_rfl) (by kernel_rfl) fun k hk => ?_; simp [intR_len])
    | (refine V_drawN rfl (by kernel_rfl) (by kernel_rfl) (by simp [hn]) fun C k hC hk => ?_; simp [intR_len])
    | (refine HD3_val rfl ?_; simp [intR_len])
    | (refine HD3_put ?_; simp [intR_len])
    | (refine HD3_chg rfl rfl ?_; simp [intR_len])
    | (refine HD3_nil (hC _ _ (by kernel_rfl) (by kernel_rfl)) (hk _ ?_); clear hC hk C k; simp only [RK_seq, RK_seq_ret, RK_seq_exit, RK_blk, RK_blk_ret, RK_blk_exit, RK_loop, RK_loop_ret, RK_loop_exit, RK_done]; simp [St.ins, insL, putE, getK_setOb, getK_cons])
    | (refine V_drawE rfl (by kernel_rfl) (by kernel_rfl) (by simp [hn]) fun C k hC hk => ?_; simp [intR_len])
    | (refine HD_guardU rfl (by simp [intR_len]) ?_; simp [intR_len])
    | (refine HD_guard rfl (by simp [intR_len]) (fun hc => ?_) (fun hc => ?_) <;> (try simp [intR_len] at hc) <;> (try (exfalso; omega)) <;> (try simp [intR_len]))
    | (refine HD2_guardU rfl (by simp [intR_len]) ?_; simp [intR_len])
    | (refine HD2_guard rfl (by simp [intR_len]) (fun hc => ?_) (fun hc => ?_) <;> (try simp [intR_len] at hc) <;> (try (exfalso; omega)) <;> (try simp [intR_len]))
    | (refine V_sblock ?_; simp [intR_len])
    | (refine V_sregion ?_; simp [intR_len])
    | (refine V_ret ?_; simp only [RK_seq, RK_seq_ret, RK_seq_exit, RK_blk, RK_blk_ret, RK_blk_exit, RK_loop, RK_loop_ret, RK_loop_exit, RK_done])
    | (refine V_skip ?_; simp only [RK_seq, RK_seq_ret, RK_seq_exit, RK_blk, RK_blk_ret, RK_blk_exit, RK_loop, RK_loop_ret, RK_loop_exit, RK_done])
    | (refine V_exit ?_; simp [RK_seq, RK_seq_ret, RK_seq_exit, RK_blk, RK_blk_ret, RK_blk_exit, RK_loop, RK_loop_ret, RK_loop_exit, RK_done])
    | (refine ⟨?_, by omega⟩)
    | (refine ⟨fun hc => ?_, fun hc => ?_⟩ <;> (try (exfalso; omega)))
    | (intro hc <;> (try (exfalso; omega)))
    | (refine CallV.fun_ (hf) (by first | rfl | fail) (by first | assumption | (simp; done) | fail) (by first | (simp [intR_len]; done) | (simp [intR_len]; rfl) | fail) (by first | (simp; done) | fail) ?_ <;> (try simp [intR_len]))
    | (refine CallP.fun_ (hf) (by first | rfl | fail) (by first | assumption | (simp; done) | fail) (by first | (simp [intR_len]; done) | (simp [intR_len]; rfl) | fail) (by first | (simp; done) | fail) (fun d hd => ?_); subst hd; (try simp [intR_len])))
  refine V_loopO (α := { k : Nat // k ≤ K }) [1, 2, 7] (fun k => [(9, .u (.int .i64 (xsS s k.1))), (10, .u (.int .i64 k.1))]) (fun k => [(0, .vec 3 1 (intR (drawG s i k.1)))]) 1 (fun k => K - k.1) ⟨0, by omega⟩ ?_ ?_
  · exact (Wk.cut rfl (by simp [hn]) (by simp [wkO, St.lp, getK_cons, getK, Ob.under, D.under, under_rowsD, under_entD, drawG, intR]) (by simp [wkU, St.lp, keepE, getK_cons, getK, D.under, drawG, intR]) (by simp [wkE, St.lp, keepE, getK_cons, getK, drawG, intR] <;> (try (intros; simp_all; done)) <;> (try (intros; omega)) <;> (try grind)))
  rintro ⟨q, hq⟩
  simp [St.lp, St.only, keepE, getK_cons, getK]
  by_cases hlt : q < K
  · have hqi : q < i := by omega
    have hx := xsS_range s q
    have haf := after_fun (xsS s q) hx.1 hx.2
    have hxe : nxS (xsS s q) = xsS s (q + 1) := rfl
    rw [hxe] at haf
    have hx2 := xsS_range s (q + 1)
    have hq0 : (xsS s (q + 1)).tdiv 65536 = xsS s (q + 1) / 65536 := Int.tdiv_eq_ediv_of_nonneg hx2.1
    have hJ := drawJ_eq s (show q < i by omega)
    have hJr := drawJ_range s (show q < i by omega)
    have hst : ∀ h1 h2, ((drawG s i q).set q ((drawG s i q)[drawJ s i q]'h1)).set (drawJ s i q) ((drawG s i q)[q]'h2) = drawG s i (q + 1) := fun h1 h2 => by
      rw [drawG, swp, List.getD_eq_getElem?_getD, List.getD_eq_getElem?_getD, List.getElem?_eq_getElem h1, List.getElem?_eq_getElem h2]
      rfl
    repeat' (first
    | (refine H_cons ?_; simp [intR_len, drawG_length, intR_getE, intR_set, hq0, hJ, hJr.2, hlt, hqi, hst])
    | (refine HD2_val rfl ?_; simp [intR_len, drawG_length, intR_getE, intR_set, hq0, hJ, hJr.2, hlt, hqi, hst])
    | (refine HD_cons ?_; simp [intR_len, drawG_length, intR_getE, intR_set, hq0, hJ, hJr.2, hlt, hqi, hst])
    | (refine HD2_chg rfl ?_; simp [intR_len, drawG_length, intR_getE, intR_set, hq0, hJ, hJr.2, hlt, hqi, hst])
    | (refine H_nil ?_; simp [intR_len, drawG_length, intR_getE, intR_set, hq0, hJ, hJr.2, hlt, hqi, hst])
    | (refine ⟨by omega, ?_⟩)
    | (refine V_sseq ?_; simp [intR_len, drawG_length, intR_getE, intR_set, hq0, hJ, hJr.2, hlt, hqi, hst])
    | (refine V_scond ?_; simp [intR_len, drawG_length, intR_getE, intR_set, hq0, hJ, hJr.2, hlt, hqi, hst])
    | (refine HD2_nil (hC _ (by kernel_rfl)) (hk _ ?_); clear hC hk C k; simp only [RK_seq, RK_seq_ret, RK_seq_exit, RK_blk, RK_blk_ret, RK_blk_exit, RK_loop, RK_loop_ret, RK_loop_exit, RK_done])
    | (refine HD_nil ?_)
    | (refine hk _ ?_; clear hk k; simp only [RK_seq, RK_seq_ret, RK_seq_exit, RK_blk, RK_blk_ret, RK_blk_exit, RK_loop, RK_loop_ret, RK_loop_exit, RK_done])
    | (refine V_drawV rfl (by kernel_rfl) (by kernel_rfl) fun k hk => ?_; simp [intR_len, drawG_length, intR_getE, intR_set, hq0, hJ, hJr.2, hlt, hqi, hst])
    | (refine V_drawN rfl (by kernel_rfl) (by kernel_rfl) (by simp [hn]) fun C k hC hk => ?_; simp [intR_len, drawG_length, intR_getE, intR_set, hq0, hJ, hJr.2, hlt, hqi, hst])
    | (refine HD3_val rfl ?_; simp [intR_len, drawG_length, intR_getE, intR_set, hq0, hJ, hJr.2, hlt, hqi, hst])
    | (refine HD3_put ?_; simp [intR_len, drawG_length, intR_getE, intR_set, hq0, hJ, hJr.2, hlt, hqi, hst])
    | (refine HD3_chg rfl rfl ?_; simp [intR_len, drawG_length, intR_getE, intR_set, hq0, hJ, hJr.2, hlt, hqi, hst])
    | (refine HD3_nil (hC _ _ (by kernel_rfl) (by kernel_rfl)) (hk _ ?_); clear hC hk C k; simp only [RK_seq, RK_seq_ret, RK_seq_exit, RK_blk, RK_blk_ret, RK_blk_exit, RK_loop, RK_loop_ret, RK_loop_exit, RK_done]; simp [St.ins, insL, putE, getK_setOb, getK_cons])
    | (refine V_drawE rfl (by kernel_rfl) (by kernel_rfl) (by simp [hn]) fun C k hC hk => ?_; simp [intR_len, drawG_length, intR_getE, intR_set, hq0, hJ, hJr.2, hlt, hqi, hst])
    | (refine HD_guardU rfl (by simp [intR_len, drawG_length, intR_getE, intR_set, hq0, hJ, hJr.2, hlt, hqi, hst]) ?_; simp [intR_len, drawG_length, intR_getE, intR_set, hq0, hJ, hJr.2, hlt, hqi, hst])
    | (refine HD_guard rfl (by simp [intR_len, drawG_length, intR_getE, intR_set, hq0, hJ, hJr.2, hlt, hqi, hst]) (fun hc => ?_) (fun hc => ?_) <;> (try simp [intR_len, drawG_length, intR_getE, intR_set, hq0, hJ, hJr.2, hlt, hqi, hst] at hc) <;> (try (exfalso; omega)) <;> (try simp [intR_len, drawG_length, intR_getE, intR_set, hq0, hJ, hJr.2, hlt, hqi, hst]))
    | (refine HD2_guardU rfl (by simp [intR_len, drawG_length, intR_getE, intR_set, hq0, hJ, hJr.2, hlt, hqi, hst]) ?_; simp [intR_len, drawG_length, intR_getE, intR_set, hq0, hJ, hJr.2, hlt, hqi, hst])
    | (refine HD2_guard rfl (by simp [intR_len, drawG_length, intR_getE, intR_set, hq0, hJ, hJr.2, hlt, hqi, hst]) (fun hc => ?_) (fun hc => ?_) <;> (try simp [intR_len, drawG_length, intR_getE, intR_set, hq0, hJ, hJr.2, hlt, hqi, hst] at hc) <;> (try (exfalso; omega)) <;> (try simp [intR_len, drawG_length, intR_getE, intR_set, hq0, hJ, hJr.2, hlt, hqi, hst]))
    | (refine V_sblock ?_; simp [intR_len, drawG_length, intR_getE, intR_set, hq0, hJ, hJr.2, hlt, hqi, hst])
    | (refine V_sregion ?_; simp [intR_len, drawG_length, intR_getE, intR_set, hq0, hJ, hJr.2, hlt, hqi, hst])
    | (refine V_ret ?_; simp only [RK_seq, RK_seq_ret, RK_seq_exit, RK_blk, RK_blk_ret, RK_blk_exit, RK_loop, RK_loop_ret, RK_loop_exit, RK_done])
    | (refine V_skip ?_; simp only [RK_seq, RK_seq_ret, RK_seq_exit, RK_blk, RK_blk_ret, RK_blk_exit, RK_loop, RK_loop_ret, RK_loop_exit, RK_done])
    | (refine V_exit ?_; simp [RK_seq, RK_seq_ret, RK_seq_exit, RK_blk, RK_blk_ret, RK_blk_exit, RK_loop, RK_loop_ret, RK_loop_exit, RK_done])
    | (refine ⟨?_, by omega⟩)
    | (refine ⟨fun hc => ?_, fun hc => ?_⟩ <;> (try (exfalso; omega)))
    | (intro hc <;> (try (exfalso; omega)))
    | (refine CallV.fun_ (haf) (by first | rfl | fail) (by first | assumption | (simp; done) | fail) (by first | (simp [intR_len, drawG_length, intR_getE, intR_set, hq0, hJ, hJr.2, hlt, hqi, hst]; done) | (simp [intR_len, drawG_length, intR_getE, intR_set, hq0, hJ, hJr.2, hlt, hqi, hst]; rfl) | fail) (by first | (simp; done) | fail) ?_ <;> (try simp [intR_len, drawG_length, intR_getE, intR_set, hq0, hJ, hJr.2, hlt, hqi, hst]))
    | (refine CallP.fun_ (haf) (by first | rfl | fail) (by first | assumption | (simp; done) | fail) (by first | (simp [intR_len, drawG_length, intR_getE, intR_set, hq0, hJ, hJr.2, hlt, hqi, hst]; done) | (simp [intR_len, drawG_length, intR_getE, intR_set, hq0, hJ, hJr.2, hlt, hqi, hst]; rfl) | fail) (by first | (simp; done) | fail) (fun d hd => ?_); subst hd; (try simp [intR_len, drawG_length, intR_getE, intR_set, hq0, hJ, hJr.2, hlt, hqi, hst])))
    refine LoopW.next ⟨q + 1, by omega⟩ (by simp; omega) ?_
    exact (Wk.cut rfl (by simp [hn]) (by simp [wkO, St.lp, getK_cons, getK, Ob.under, D.under, under_rowsD, under_entD, intR]) (by simp [wkU, St.lp, keepE, getK_cons, getK, D.under, intR]) (by simp [wkE, St.lp, keepE, getK_cons, getK, intR] <;> (try (intros; simp_all; done)) <;> (try (intros; omega)) <;> (try grind)))
  obtain rfl : q = K := by omega
  repeat' (first
    | (refine H_cons ?_; simp [intR_len, drawG_length, hK])
    | (refine HD2_val rfl ?_; simp [intR_len, drawG_length, hK])
    | (refine HD_cons ?_; simp [intR_len, drawG_length, hK])
    | (refine HD2_chg rfl ?_; simp [intR_len, drawG_length, hK])
    | (refine H_nil ?_; simp [intR_len, drawG_length, hK])
    | (refine ⟨by omega, ?_⟩)
    | (refine V_sseq ?_; simp [intR_len, drawG_length, hK])
    | (refine V_scond ?_; simp [intR_len, drawG_length, hK])
    | (refine HD2_nil (hC _ (by kernel_rfl)) (hk _ ?_); clear hC hk C k; simp only [RK_seq, RK_seq_ret, RK_seq_exit, RK_blk, RK_blk_ret, RK_blk_exit, RK_loop, RK_loop_ret, RK_loop_exit, RK_done])
    | (refine HD_nil ?_)
    | (refine hk _ ?_; clear hk k; simp only [RK_seq, RK_seq_ret, RK_seq_exit, RK_blk, RK_blk_ret, RK_blk_exit, RK_loop, RK_loop_ret, RK_loop_exit, RK_done])
    | (refine V_drawV rfl (by kernel_rfl) (by kernel_rfl) fun k hk => ?_; simp [intR_len, drawG_length, hK])
    | (refine V_drawN rfl (by kernel_rfl) (by kernel_rfl) (by simp [hn]) fun C k hC hk => ?_; simp [intR_len, drawG_length, hK])
    | (refine HD3_val rfl ?_; simp [intR_len, drawG_length, hK])
    | (refine HD3_put ?_; simp [intR_len, drawG_length, hK])
    | (refine HD3_chg rfl rfl ?_; simp [intR_len, drawG_length, hK])
    | (refine HD3_nil (hC _ _ (by kernel_rfl) (by kernel_rfl)) (hk _ ?_); clear hC hk C k; simp only [RK_seq, RK_seq_ret, RK_seq_exit, RK_blk, RK_blk_ret, RK_blk_exit, RK_loop, RK_loop_ret, RK_loop_exit, RK_done]; simp [St.ins, insL, putE, getK_setOb, getK_cons])
    | (refine V_drawE rfl (by kernel_rfl) (by kernel_rfl) (by simp [hn]) fun C k hC hk => ?_; simp [intR_len, drawG_length, hK])
    | (refine HD_guardU rfl (by simp [intR_len, drawG_length, hK]) ?_; simp [intR_len, drawG_length, hK])
    | (refine HD_guard rfl (by simp [intR_len, drawG_length, hK]) (fun hc => ?_) (fun hc => ?_) <;> (try simp [intR_len, drawG_length, hK] at hc) <;> (try (exfalso; omega)) <;> (try simp [intR_len, drawG_length, hK]))
    | (refine HD2_guardU rfl (by simp [intR_len, drawG_length, hK]) ?_; simp [intR_len, drawG_length, hK])
    | (refine HD2_guard rfl (by simp [intR_len, drawG_length, hK]) (fun hc => ?_) (fun hc => ?_) <;> (try simp [intR_len, drawG_length, hK] at hc) <;> (try (exfalso; omega)) <;> (try simp [intR_len, drawG_length, hK]))
    | (refine V_sblock ?_; simp [intR_len, drawG_length, hK])
    | (refine V_sregion ?_; simp [intR_len, drawG_length, hK])
    | (refine V_ret ?_; simp only [RK_seq, RK_seq_ret, RK_seq_exit, RK_blk, RK_blk_ret, RK_blk_exit, RK_loop, RK_loop_ret, RK_loop_exit, RK_done])
    | (refine V_skip ?_; simp only [RK_seq, RK_seq_ret, RK_seq_exit, RK_blk, RK_blk_ret, RK_blk_exit, RK_loop, RK_loop_ret, RK_loop_exit, RK_done])
    | (refine V_exit ?_; simp [RK_seq, RK_seq_ret, RK_seq_exit, RK_blk, RK_blk_ret, RK_blk_exit, RK_loop, RK_loop_ret, RK_loop_exit, RK_done])
    | (refine ⟨?_, by omega⟩)
    | (refine ⟨fun hc => ?_, fun hc => ?_⟩ <;> (try (exfalso; omega)))
    | (intro hc <;> (try (exfalso; omega))))
  (refine EndW.frzN 1 ?_; simp [frzN, frz1, frz_env, frz_obs, St.frz, St.frzS, frzS, fv, fzVec, fzMap, fzBox, frzObS, frz_entD, frz_rowsD, del, frz, frzOb, intR_take, intR_all, drawG_length, intR_len, hK])
  refine EndW.norm (EndW.here ?_)
  (refine EndOK.val (.inr rfl) ?_; simp [resD, oneOrTup, pureD, Try.results15, frz_obs, frz_env, norm_obs, norm_env, frz, frzOb, frzS, fv, fzVec, fzMap, fzBox, frzObS, frz_entD, frz_rowsD, normD, normU, norm1, normOb, intR_take, intR_all, drawG_length, intR_len, hK])
end Go.Proofs.Ytmebfcehkfaiaaa
