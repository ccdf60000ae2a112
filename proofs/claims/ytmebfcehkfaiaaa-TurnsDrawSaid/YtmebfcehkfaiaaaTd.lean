/- Layer 23: Draw: the walk. -/
import Derived.Test.YtmebfcehkfaiaaaTc
set_option linter.all false
set_option maxRecDepth 100000
set_option maxHeartbeats 8000000
set_option linter.all false
namespace Go.Proofs.Ytmebfcehkfaiaaa
open Go Go.VL
theorem intR_get (l : List Int) (i : Nat) : (intR l)[i]? = (l[i]?).map fun z => [D.u (.int .i64 z)] := by simp [intR]
theorem intR_getE (l : List Int) (i : Nat) (h : i < (intR l).length) : (intR l)[i] = [D.u (.int .i64 (l[i]'(by simpa [intR] using h)))] := by simp [intR]
theorem intR_set (l : List Int) (i : Nat) (z : Int) : (intR l).set i [D.u (.int .i64 z)] = intR (l.set i z) := by simp [intR, List.map_set]
theorem intR_take (l : List Int) (i : Nat) : (intR l).take i = intR (l.take i) := by simp [intR, List.map_take]
theorem intR_len (l : List Int) : (intR l).length = l.length := by simp [intR]
theorem intR_all (l : List Int) : allU2 (intR l) = some (l.map fun z => [U.int .i64 z]) := by rw [← intR_rows]; simp
theorem intR_rep (n : Nat) : List.replicate n [D.u (.int .i64 0)] = intR (List.replicate n 0) := by simp [intR]
def pre (N i : Nat) : List Int := (List.range N).map fun k => if k < i then (k : Int) else 0
theorem pre_len (N i : Nat) : (pre N i).length = N := by simp [pre]
theorem pre_set (N i : Nat) (h : i < N) : (pre N i).set i (i : Int) = pre N (i + 1) := by
  apply List.ext_getElem?
  intro j
  simp only [pre, List.getElem?_set, List.length_map, List.length_range, List.getElem?_map]
  by_cases hj : i = j
  · subst hj; simp [h]
  · rw [if_neg hj]
    by_cases hj2 : j < N
    · have h1 : (j < i ↔ j < i + 1) := by omega
      simp [hj2, h1]
    · rw [List.getElem?_eq_none (by simpa using hj2)]; rfl
theorem pre_zero (N : Nat) : pre N 0 = List.replicate N 0 := by
  apply List.ext_getElem?
  intro j
  by_cases hj : j < N <;> simp [pre, hj]
theorem pre_all (s : Int) (N : Nat) : pre N N = drawG s N 0 := by
  simp only [pre, drawG]
  apply List.map_congr_left
  intro k hk
  rw [if_pos (List.mem_range.1 hk)]
  rfl
attribute [local simp] hcons hstep evPure opd uOf putOK St.put St.at getK binD binI binS binB nilD aggD eqUs cmpK lookD lookR rangeD nextD entryD keyD valU keyU lookK mkV entD_nil lookK_entD updK_entD1 updK_entD2 updK_entD3 allUE allUE_entD makeMapD mapUpdD mapEff updK valM Key.kk shiftI arith unD convD pickD loadD cellsAt fieldAddrD fieldD indexAddrD indexD sliceD cutD lenD minmaxD nilCheckD buildD fillD cellsD isOne ones setAll mkAgg allU allocD boxD storeD St.add buildSliceD appendD rowsOf makeD setOb getK_setOb getK_del getK_cons stripL strip guardTmp entry chunks zcells valD argsV argsW argW argU1 argU0 argsU0 argsU1 calleeOf scalarD scalarU delAll effD St.effS RK_seq RK_seq_ret RK_seq_exit RK_blk RK_blk_ret RK_blk_exit RK_loop RK_loop_ret RK_loop_exit RK_done vs_seq vs_block vs_skip vs_label vs_exit vs_ret vs_cond vs_region vs_loop vs_draw vs_range vs_scope applyW mkD rdIds lentIds callOf calleeOf freeOp D.ids Op.operands Call.operands isEffOp IntKind.bits allU2 allU2_append List.take_of_length_le List.range_succ
attribute [local irreducible] V G H HD HD2 RunK Eff CallP CallV EndOK Fun Ret FinOK LoopI LoopW EndW
theorem clone_fun (l : List Int) (hl : l.length ≤ 1000000) : Fun Try.prog 22 [.u (ints l)] (· = .u (ints l)) := by
  cases l with
  | nil =>
    (refine Fun.of_bodyW Try.func22 rfl (by simp) fun Γ hn => ?_); simp only [entry, List.zipIdx_cons, List.zipIdx_nil, List.map_cons, List.map_nil, Nat.zero_add, Try.ntmps22]
    simp only [ints, List.map_nil]
    refine V_nilsplit (x := 0) rfl ?_ (fun a cp => ?_)
    · repeat' (first
    | (refine H_cons ?_; simp)
    | (refine HD2_val rfl ?_; simp)
    | (refine HD_cons ?_; simp)
    | (refine HD2_chg rfl ?_; simp)
    | (refine H_nil ?_; simp)
    | (refine ⟨by omega, ?_⟩)
    | (refine V_sseq ?_; simp)
    | (refine V_scond ?_; simp)
    | (refine HD2_nil (hC _ (by kernel_rfl)) (hk _ ?_); clear hC hk C k; simp only [RK_seq, RK_seq_ret, RK_seq_exit, RK_blk, RK_blk_ret, RK_blk_exit, RK_loop, RK_loop_ret, RK_loop_exit, RK_done])
    | (refine HD_nil ?_)
    | (refine hk _ ?_; clear hk k; simp only [RK_seq, RK_seq_ret, RK_seq_exit, RK_blk, RK_blk_ret, RK_blk_exit, RK_loop, RK_loop_ret, RK_loop_exit, RK_done])
    | (refine V_drawV rfl (by kernel_rfl) (by kernel_rfl) fun k hk => ?_; simp)
    | (refine V_drawN rfl (by kernel_rfl) (by kernel_rfl) (by simp [hn]) fun C k hC hk => ?_; simp)
    | (refine HD3_val rfl ?_; simp)
    | (refine HD3_put ?_; simp)
    | (refine HD3_chg rfl rfl ?_; simp)
    | (refine HD3_nil (hC _ _ (by kernel_rfl) (by kernel_rfl)) (hk _ ?_); clear hC hk C k; simp only [RK_seq, RK_seq_ret, RK_seq_exit, RK_blk, RK_blk_ret, RK_blk_exit, RK_loop, RK_loop_ret, RK_loop_exit, RK_done]; simp [St.ins, insL, putE, getK_setOb, getK_cons])
    | (refine V_drawE rfl (by kernel_rfl) (by kernel_rfl) (by simp [hn]) fun C k hC hk => ?_; simp)
    | (refine HD_guardU rfl (by simp) ?_; simp)
    | (refine HD_guard rfl (by simp) (fun hc => ?_) (fun hc => ?_) <;> (try simp at hc) <;> (try (exfalso; omega)) <;> (try simp))
    | (refine HD2_guardU rfl (by simp) ?_; simp)
    | (refine HD2_guard rfl (by simp) (fun hc => ?_) (fun hc => ?_) <;> (try simp at hc) <;> (try (exfalso; omega)) <;> (try simp))
    | (refine V_sblock ?_; simp)
    | (refine V_sregion ?_; simp)
    | (refine V_ret ?_; simp only [RK_seq, RK_seq_ret, RK_seq_exit, RK_blk, RK_blk_ret, RK_blk_exit, RK_loop, RK_loop_ret, RK_loop_exit, RK_done])
    | (refine V_skip ?_; simp only [RK_seq, RK_seq_ret, RK_seq_exit, RK_blk, RK_blk_ret, RK_blk_exit, RK_loop, RK_loop_ret, RK_loop_exit, RK_done])
    | (refine V_exit ?_; simp [RK_seq, RK_seq_ret, RK_seq_exit, RK_blk, RK_blk_ret, RK_blk_exit, RK_loop, RK_loop_ret, RK_loop_exit, RK_done])
    | (refine ⟨?_, by omega⟩)
    | (refine ⟨fun hc => ?_, fun hc => ?_⟩ <;> (try (exfalso; omega)))
    | (intro hc <;> (try (exfalso; omega))))
      refine EndW.norm (EndW.here ?_)
      (refine EndOK.val (.inr rfl) ?_; simp [resD, oneOrTup, pureD, Try.results22, frz_obs, frz_env, norm_obs, norm_env, frz, frzOb, frzS, fv, fzVec, fzMap, fzBox, frzObS, frz_entD, frz_rowsD, normD, normU, norm1, normOb])
    · repeat' (first
    | (refine H_cons ?_; simp)
    | (refine HD2_val rfl ?_; simp)
    | (refine HD_cons ?_; simp)
    | (refine HD2_chg rfl ?_; simp)
    | (refine H_nil ?_; simp)
    | (refine ⟨by omega, ?_⟩)
    | (refine V_sseq ?_; simp)
    | (refine V_scond ?_; simp)
    | (refine HD2_nil (hC _ (by kernel_rfl)) (hk _ ?_); clear hC hk C k; simp only [RK_seq, RK_seq_ret, RK_seq_exit, RK_blk, RK_blk_ret, RK_blk_exit, RK_loop, RK_loop_ret, RK_loop_exit, RK_done])
    | (refine HD_nil ?_)
    | (refine hk _ ?_; clear hk k; simp only [RK_seq, RK_seq_ret, RK_seq_exit, RK_blk, RK_blk_ret, RK_blk_exit, RK_loop, RK_loop_ret, RK_loop_exit, RK_done])
    | (refine V_drawV rfl (by kernel_rfl) (by kernel_rfl) fun k hk => ?_; simp)
    | (refine V_drawN rfl (by kernel_rfl) (by kernel_rfl) (by simp [hn]) fun C k hC hk => ?_; simp)
    | (refine HD3_val rfl ?_; simp)
    | (refine HD3_put ?_; simp)
    | (refine HD3_chg rfl rfl ?_; simp)
    | (refine HD3_nil (hC _ _ (by kernel_rfl) (by kernel_rfl)) (hk _ ?_); clear hC hk C k; simp only [RK_seq, RK_seq_ret, RK_seq_exit, RK_blk, RK_blk_ret, RK_blk_exit, RK_loop, RK_loop_ret, RK_loop_exit, RK_done]; simp [St.ins, insL, putE, getK_setOb, getK_cons])
    | (refine V_drawE rfl (by kernel_rfl) (by kernel_rfl) (by simp [hn]) fun C k hC hk => ?_; simp)
    | (refine HD_guardU rfl (by simp) ?_; simp)
    | (refine HD_guard rfl (by simp) (fun hc => ?_) (fun hc => ?_) <;> (try simp at hc) <;> (try (exfalso; omega)) <;> (try simp))
    | (refine HD2_guardU rfl (by simp) ?_; simp)
    | (refine HD2_guard rfl (by simp) (fun hc => ?_) (fun hc => ?_) <;> (try simp at hc) <;> (try (exfalso; omega)) <;> (try simp))
    | (refine V_sblock ?_; simp)
    | (refine V_sregion ?_; simp)
    | (refine V_ret ?_; simp only [RK_seq, RK_seq_ret, RK_seq_exit, RK_blk, RK_blk_ret, RK_blk_exit, RK_loop, RK_loop_ret, RK_loop_exit, RK_done])
    | (refine V_skip ?_; simp only [RK_seq, RK_seq_ret, RK_seq_exit, RK_blk, RK_blk_ret, RK_blk_exit, RK_loop, RK_loop_ret, RK_loop_exit, RK_done])
    | (refine V_exit ?_; simp [RK_seq, RK_seq_ret, RK_seq_exit, RK_blk, RK_blk_ret, RK_blk_exit, RK_loop, RK_loop_ret, RK_loop_exit, RK_done])
    | (refine ⟨?_, by omega⟩)
    | (refine ⟨fun hc => ?_, fun hc => ?_⟩ <;> (try (exfalso; omega)))
    | (intro hc <;> (try (exfalso; omega))))
      (refine EndW.frzN 1 ?_; simp [frzN, frz1, frz_env, frz_obs, St.frz, St.frzS, frzS, fv, fzVec, fzMap, fzBox, frzObS, frz_entD, frz_rowsD, del, frz, frzOb])
      refine EndW.norm (EndW.here ?_)
      (refine EndOK.val (.inr rfl) ?_; simp [resD, oneOrTup, pureD, Try.results22, frz_obs, frz_env, norm_obs, norm_env, frz, frzOb, frzS, fv, fzVec, fzMap, fzBox, frzObS, frz_entD, frz_rowsD, normD, normU, norm1, normOb])
  | cons x l =>
    simp only [List.length_cons] at hl
    (refine Fun.of_bodyW Try.func22 rfl (by simp) fun Γ hn => ?_); simp only [entry, List.zipIdx_cons, List.zipIdx_nil, List.map_cons, List.map_nil, Nat.zero_add, Try.ntmps22]
    simp only [ints, List.map_cons]
    repeat' (first
    | (refine H_cons ?_; simp)
    | (refine HD2_val rfl ?_; simp)
    | (refine HD_cons ?_; simp)
    | (refine HD2_chg rfl ?_; simp)
    | (refine H_nil ?_; simp)
    | (refine ⟨by omega, ?_⟩)
    | (refine V_sseq ?_; simp)
    | (refine V_scond ?_; simp)
    | (refine HD2_nil (hC _ (by kernel_rfl)) (hk _ ?_); clear hC hk C k; simp only [RK_seq, RK_seq_ret, RK_seq_exit, RK_blk, RK_blk_ret, RK_blk_exit, RK_loop, RK_loop_ret, RK_loop_exit, RK_done])
    | (refine HD_nil ?_)
    | (refine hk _ ?_; clear hk k; simp only [RK_seq, RK_seq_ret, RK_seq_exit, RK_blk, RK_blk_ret, RK_blk_exit, RK_loop, RK_loop_ret, RK_loop_exit, RK_done])
    | (refine V_drawV rfl (by kernel_rfl) (by kernel_rfl) fun k hk => ?_; simp)
    | (refine V_drawN rfl (by kernel_rfl) (by kernel_rfl) (by simp [hn]) fun C k hC hk => ?_; simp)
    | (refine HD3_val rfl ?_; simp)
    | (refine HD3_put ?_; simp)
    | (refine HD3_chg rfl rfl ?_; simp)
    | (refine HD3_nil (hC _ _ (by kernel_rfl) (by kernel_rfl)) (hk _ ?_); clear hC hk C k; simp only [RK_seq, RK_seq_ret, RK_seq_exit, RK_blk, RK_blk_ret, RK_blk_exit, RK_loop, RK_loop_ret, RK_loop_exit, RK_done]; simp [St.ins, insL, putE, getK_setOb, getK_cons])
    | (refine V_drawE rfl (by kernel_rfl) (by kernel_rfl) (by simp [hn]) fun C k hC hk => ?_; simp)
    | (refine HD_guardU rfl (by simp) ?_; simp)
    | (refine HD_guard rfl (by simp) (fun hc => ?_) (fun hc => ?_) <;> (try simp at hc) <;> (try (exfalso; omega)) <;> (try simp))
    | (refine HD2_guardU rfl (by simp) ?_; simp)
    | (refine HD2_guard rfl (by simp) (fun hc => ?_) (fun hc => ?_) <;> (try simp at hc) <;> (try (exfalso; omega)) <;> (try simp))
    | (refine V_sblock ?_; simp)
    | (refine V_sregion ?_; simp)
    | (refine V_ret ?_; simp only [RK_seq, RK_seq_ret, RK_seq_exit, RK_blk, RK_blk_ret, RK_blk_exit, RK_loop, RK_loop_ret, RK_loop_exit, RK_done])
    | (refine V_skip ?_; simp only [RK_seq, RK_seq_ret, RK_seq_exit, RK_blk, RK_blk_ret, RK_blk_exit, RK_loop, RK_loop_ret, RK_loop_exit, RK_done])
    | (refine V_exit ?_; simp [RK_seq, RK_seq_ret, RK_seq_exit, RK_blk, RK_blk_ret, RK_blk_exit, RK_loop, RK_loop_ret, RK_loop_exit, RK_done])
    | (refine ⟨?_, by omega⟩)
    | (refine ⟨fun hc => ?_, fun hc => ?_⟩ <;> (try (exfalso; omega)))
    | (intro hc <;> (try (exfalso; omega))))
    (refine EndW.frzN 1 ?_; simp [frzN, frz1, frz_env, frz_obs, St.frz, St.frzS, frzS, fv, fzVec, fzMap, fzBox, frzObS, frz_entD, frz_rowsD, del, frz, frzOb])
    refine EndW.here ?_
    (refine EndOK.val (.inr rfl) ?_; simp [resD, oneOrTup, pureD, Try.results22, frz_obs, frz_env, norm_obs, norm_env, frz, frzOb, frzS, fv, fzVec, fzMap, fzBox, frzObS, frz_entD, frz_rowsD, normD, normU, norm1, normOb])
theorem draw_fun (s n k : Int) : Fun Try.prog 14 [.u (.int .i64 s), .u (.int .i64 n), .u (.int .i64 k)] (· = .u (ints (drawS s n k))) := by
  by_cases hv : n < 0 ∨ 4000 < n ∨ k < 0 ∨ n < k
  · have hd : drawS s n k = [] := by simp [drawS, hv]
    rw [hd]
    (refine Fun.of_bodyW Try.func14 rfl (by simp) fun Γ hn => ?_); simp only [entry, List.zipIdx_cons, List.zipIdx_nil, List.map_cons, List.map_nil, Nat.zero_add, Try.ntmps14]
    repeat' (first
    | (refine H_cons ?_; simp)
    | (refine HD2_val rfl ?_; simp)
    | (refine HD_cons ?_; simp)
    | (refine HD2_chg rfl ?_; simp)
    | (refine H_nil ?_; simp)
    | (refine ⟨by omega, ?_⟩)
    | (refine V_sseq ?_; simp)
    | (refine V_scond ?_; simp)
    | (refine HD2_nil (hC _ (by kernel_rfl)) (hk _ ?_); clear hC hk C k; simp only [RK_seq, RK_seq_ret, RK_seq_exit, RK_blk, RK_blk_ret, RK_blk_exit, RK_loop, RK_loop_ret, RK_loop_exit, RK_done])
    | (refine HD_nil ?_)
    | (refine hk _ ?_; clear hk k; simp only [RK_seq, RK_seq_ret, RK_seq_exit, RK_blk, RK_blk_ret, RK_blk_exit, RK_loop, RK_loop_ret, RK_loop_exit, RK_done])
    | (refine V_drawV rfl (by kernel_rfl) (by kernel_rfl) fun k hk => ?_; simp)
    | (refine V_drawN rfl (by kernel_rfl) (by kernel_rfl) (by simp [hn]) fun C k hC hk => ?_; simp)
    | (refine HD3_val rfl ?_; simp)
    | (refine HD3_put ?_; simp)
    | (refine HD3_chg rfl rfl ?_; simp)
    | (refine HD3_nil (hC _ _ (by kernel_rfl) (by kernel_rfl)) (hk _ ?_); clear hC hk C k; simp only [RK_seq, RK_seq_ret, RK_seq_exit, RK_blk, RK_blk_ret, RK_blk_exit, RK_loop, RK_loop_ret, RK_loop_exit, RK_done]; simp [St.ins, insL, putE, getK_setOb, getK_cons])
    | (refine V_drawE rfl (by kernel_rfl) (by kernel_rfl) (by simp [hn]) fun C k hC hk => ?_; simp)
    | (refine HD_guardU rfl (by simp) ?_; simp)
    | (refine HD_guard rfl (by simp) (fun hc => ?_) (fun hc => ?_) <;> (try simp at hc) <;> (try (exfalso; omega)) <;> (try simp))
    | (refine HD2_guardU rfl (by simp) ?_; simp)
    | (refine HD2_guard rfl (by simp) (fun hc => ?_) (fun hc => ?_) <;> (try simp at hc) <;> (try (exfalso; omega)) <;> (try simp))
    | (refine V_sblock ?_; simp)
    | (refine V_sregion ?_; simp)
    | (refine V_ret ?_; simp only [RK_seq, RK_seq_ret, RK_seq_exit, RK_blk, RK_blk_ret, RK_blk_exit, RK_loop, RK_loop_ret, RK_loop_exit, RK_done])
    | (refine V_skip ?_; simp only [RK_seq, RK_seq_ret, RK_seq_exit, RK_blk, RK_blk_ret, RK_blk_exit, RK_loop, RK_loop_ret, RK_loop_exit, RK_done])
    | (refine V_exit ?_; simp [RK_seq, RK_seq_ret, RK_seq_exit, RK_blk, RK_blk_ret, RK_blk_exit, RK_loop, RK_loop_ret, RK_loop_exit, RK_done])
    | (refine ⟨?_, by omega⟩)
    | (refine ⟨fun hc => ?_, fun hc => ?_⟩ <;> (try (exfalso; omega)))
    | (intro hc <;> (try (exfalso; omega))))
    all_goals
      refine EndW.norm (EndW.here ?_)
      (refine EndOK.val (.inr rfl) ?_; simp [resD, oneOrTup, pureD, Try.results14, frz_obs, frz_env, norm_obs, norm_env, frz, frzOb, frzS, fv, fzVec, fzMap, fzBox, frzObS, frz_entD, frz_rowsD, normD, normU, norm1, normOb])
  have hn0 : 0 ≤ n := by omega
  have hk0 : 0 ≤ k := by omega
  obtain ⟨N, rfl⟩ := Int.eq_ofNat_of_zero_le hn0
  obtain ⟨K, rfl⟩ := Int.eq_ofNat_of_zero_le hk0
  have hN : N ≤ 4000 := by omega
  have hK : K ≤ N := by omega
  have hd : drawS s N K = (drawG s N K).take K := by rw [drawS, if_neg hv]; rfl
  rw [hd]
  have hm := and_mask31 s
  have hcl := clone_fun ((drawG s N K).take K) (by simp [drawG_length]; omega)
  (refine Fun.of_bodyW Try.func14 rfl (by simp) fun Γ hn => ?_); simp only [entry, List.zipIdx_cons, List.zipIdx_nil, List.map_cons, List.map_nil, Nat.zero_add, Try.ntmps14]
  repeat' (first
    | (refine H_cons ?_; simp [intR_rep, intR_len])
    | (refine HD2_val rfl ?_; simp [intR_rep, intR_len])
    | (refine HD_cons ?_; simp [intR_rep, intR_len])
    | (refine HD2_chg rfl ?_; simp [intR_rep, intR_len])
    | (refine H_nil ?_; simp [intR_rep, intR_len])
    | (refine ⟨by omega, ?_⟩)
    | (refine V_sseq ?_; simp [intR_rep, intR_len])
    | (refine V_scond ?_; simp [intR_rep, intR_len])
    | (refine HD2_nil (hC _ (by kernel_rfl)) (hk _ ?_); clear hC hk C k; simp only [RK_seq, RK_seq_ret, RK_seq_exit, RK_blk, RK_blk_ret, RK_blk_exit, RK_loop, RK_loop_ret, RK_loop_exit, RK_done])
    | (refine HD_nil ?_)
    | (refine hk _ ?_; clear hk k; simp only [RK_seq, RK_seq_ret, RK_seq_exit, RK_blk, RK_blk_ret, RK_blk_exit, RK_loop, RK_loop_ret, RK_loop_exit, RK_done])
    | (refine V_drawV rfl (by kernel_rfl) (by kernel_rfl) fun k hk => ?_; simp [intR_rep, intR_len])
    | (refine V_drawN rfl (by kernel_rfl) (by kernel_rfl) (by simp [hn]) fun C k hC hk => ?_; simp [intR_rep, intR_len])
    | (refine HD3_val rfl ?_; simp [intR_rep, intR_len])
    | (refine HD3_put ?_; simp [intR_rep, intR_len])
    | (refine HD3_chg rfl rfl ?_; simp [intR_rep, intR_len])
    | (refine HD3_nil (hC _ _ (by kernel_rfl) (by kernel_rfl)) (hk _ ?_); clear hC hk C k; simp only [RK_seq, RK_seq_ret, RK_seq_exit, RK_blk, RK_blk_ret, RK_blk_exit, RK_loop, RK_loop_ret, RK_loop_exit, RK_done]; simp [St.ins, insL, putE, getK_setOb, getK_cons])
    | (refine V_drawE rfl (by kernel_rfl) (by kernel_rfl) (by simp [hn]) fun C k hC hk => ?_; simp [intR_rep, intR_len])
    | (refine HD_guardU rfl (by simp [intR_rep, intR_len]) ?_; simp [intR_rep, intR_len])
    | (refine HD_guard rfl (by simp [intR_rep, intR_len]) (fun hc => ?_) (fun hc => ?_) <;> (try simp [intR_rep, intR_len] at hc) <;> (try (exfalso; omega)) <;> (try simp [intR_rep, intR_len]))
    | (refine HD2_guardU rfl (by simp [intR_rep, intR_len]) ?_; simp [intR_rep, intR_len])
    | (refine HD2_guard rfl (by simp [intR_rep, intR_len]) (fun hc => ?_) (fun hc => ?_) <;> (try simp [intR_rep, intR_len] at hc) <;> (try (exfalso; omega)) <;> (try simp [intR_rep, intR_len]))
    | (refine V_sblock ?_; simp [intR_rep, intR_len])
    | (refine V_sregion ?_; simp [intR_rep, intR_len])
    | (refine V_ret ?_; simp only [RK_seq, RK_seq_ret, RK_seq_exit, RK_blk, RK_blk_ret, RK_blk_exit, RK_loop, RK_loop_ret, RK_loop_exit, RK_done])
    | (refine V_skip ?_; simp only [RK_seq, RK_seq_ret, RK_seq_exit, RK_blk, RK_blk_ret, RK_blk_exit, RK_loop, RK_loop_ret, RK_loop_exit, RK_done])
    | (refine V_exit ?_; simp [RK_seq, RK_seq_ret, RK_seq_exit, RK_blk, RK_blk_ret, RK_blk_exit, RK_loop, RK_loop_ret, RK_loop_exit, RK_done])
    | (refine ⟨?_, by omega⟩)
    | (refine ⟨fun hc => ?_, fun hc => ?_⟩ <;> (try (exfalso; omega)))
    | (intro hc <;> (try (exfalso; omega))))
  refine V_loopO (α := { i : Nat // i ≤ N }) [0, 1, 2, 7, 30] (fun i => [(31, .u (.int .i64 i.1))]) (fun i => [(0, .vec 3 1 (intR (pre N i.1)))]) 1 (fun i => N - i.1) ⟨0, by omega⟩ ?_ ?_
  · exact (Wk.cut rfl (by simp [hn]) (by simp [wkO, St.lp, getK_cons, getK, Ob.under, D.under, under_rowsD, under_entD, pre_zero, intR]) (by simp [wkU, St.lp, keepE, getK_cons, getK, D.under, pre_zero, intR]) (by simp [wkE, St.lp, keepE, getK_cons, getK, pre_zero, intR] <;> (try (intros; simp_all; done)) <;> (try (intros; omega)) <;> (try grind)))
  rintro ⟨i, hi⟩
  simp [St.lp, St.only, keepE, getK_cons, getK]
  by_cases hlt : i < N
  · have hg : (pre N i)[i]? = some ((pre N i)[i]'(by rw [pre_len]; exact hlt)) := List.getElem?_eq_getElem _
    have hs := pre_set N i hlt
    repeat' (first
    | (refine H_cons ?_; simp [intR_len, pre_len, intR_getE, intR_set, hg, hs, hlt])
    | (refine HD2_val rfl ?_; simp [intR_len, pre_len, intR_getE, intR_set, hg, hs, hlt])
    | (refine HD_cons ?_; simp [intR_len, pre_len, intR_getE, intR_set, hg, hs, hlt])
    | (refine HD2_chg rfl ?_; simp [intR_len, pre_len, intR_getE, intR_set, hg, hs, hlt])
    | (refine H_nil ?_; simp [intR_len, pre_len, intR_getE, intR_set, hg, hs, hlt])
    | (refine ⟨by omega, ?_⟩)
    | (refine V_sseq ?_; simp [intR_len, pre_len, intR_getE, intR_set, hg, hs, hlt])
    | (refine V_scond ?_; simp [intR_len, pre_len, intR_getE, intR_set, hg, hs, hlt])
    | (refine HD2_nil (hC _ (by kernel_rfl)) (hk _ ?_); clear hC hk C k; simp only [RK_seq, RK_seq_ret, RK_seq_exit, RK_blk, RK_blk_ret, RK_blk_exit, RK_loop, RK_loop_ret, RK_loop_exit, RK_done])
    | (refine HD_nil ?_)
    | (refine hk _ ?_; clear hk k; simp only [RK_seq, RK_seq_ret, RK_seq_exit, RK_blk, RK_blk_ret, RK_blk_exit, RK_loop, RK_loop_ret, RK_loop_exit, RK_done])
    | (refine V_drawV rfl (by kernel_rfl) (by kernel_rfl) fun k hk => ?_; simp [intR_len, pre_len, intR_getE, intR_set, hg, hs, hlt])
    | (refine V_drawN rfl (by kernel_rfl) (by kernel_rfl) (by simp [hn]) fun C k hC hk => ?_; simp [intR_len, pre_len, intR_getE, intR_set, hg, hs, hlt])
    | (refine HD3_val rfl ?_; simp [intR_len, pre_len, intR_getE, intR_set, hg, hs, hlt])
    | (refine HD3_put ?_; simp [intR_len, pre_len, intR_getE, intR_set, hg, hs, hlt])
    | (refine HD3_chg rfl rfl ?_; simp [intR_len, pre_len, intR_getE, intR_set, hg, hs, hlt])
    | (refine HD3_nil (hC _ _ (by kernel_rfl) (by kernel_rfl)) (hk _ ?_); clear hC hk C k; simp only [RK_seq, RK_seq_ret, RK_seq_exit, RK_blk, RK_blk_ret, RK_blk_exit, RK_loop, RK_loop_ret, RK_loop_exit, RK_done]; simp [St.ins, insL, putE, getK_setOb, getK_cons])
    | (refine V_drawE rfl (by kernel_rfl) (by kernel_rfl) (by simp [hn]) fun C k hC hk => ?_; simp [intR_len, pre_len, intR_getE, intR_set, hg, hs, hlt])
    | (refine HD_guardU rfl (by simp [intR_len, pre_len, intR_getE, intR_set, hg, hs, hlt]) ?_; simp [intR_len, pre_len, intR_getE, intR_set, hg, hs, hlt])
    | (refine HD_guard rfl (by simp [intR_len, pre_len, intR_getE, intR_set, hg, hs, hlt]) (fun hc => ?_) (fun hc => ?_) <;> (try simp [intR_len, pre_len, intR_getE, intR_set, hg, hs, hlt] at hc) <;> (try (exfalso; omega)) <;> (try simp [intR_len, pre_len, intR_getE, intR_set, hg, hs, hlt]))
    | (refine HD2_guardU rfl (by simp [intR_len, pre_len, intR_getE, intR_set, hg, hs, hlt]) ?_; simp [intR_len, pre_len, intR_getE, intR_set, hg, hs, hlt])
    | (refine HD2_guard rfl (by simp [intR_len, pre_len, intR_getE, intR_set, hg, hs, hlt]) (fun hc => ?_) (fun hc => ?_) <;> (try simp [intR_len, pre_len, intR_getE, intR_set, hg, hs, hlt] at hc) <;> (try (exfalso; omega)) <;> (try simp [intR_len, pre_len, intR_getE, intR_set, hg, hs, hlt]))
    | (refine V_sblock ?_; simp [intR_len, pre_len, intR_getE, intR_set, hg, hs, hlt])
    | (refine V_sregion ?_; simp [intR_len, pre_len, intR_getE, intR_set, hg, hs, hlt])
    | (refine V_ret ?_; simp only [RK_seq, RK_seq_ret, RK_seq_exit, RK_blk, RK_blk_ret, RK_blk_exit, RK_loop, RK_loop_ret, RK_loop_exit, RK_done])
    | (refine V_skip ?_; simp only [RK_seq, RK_seq_ret, RK_seq_exit, RK_blk, RK_blk_ret, RK_blk_exit, RK_loop, RK_loop_ret, RK_loop_exit, RK_done])
    | (refine V_exit ?_; simp [RK_seq, RK_seq_ret, RK_seq_exit, RK_blk, RK_blk_ret, RK_blk_exit, RK_loop, RK_loop_ret, RK_loop_exit, RK_done])
    | (refine ⟨?_, by omega⟩)
    | (refine ⟨fun hc => ?_, fun hc => ?_⟩ <;> (try (exfalso; omega)))
    | (intro hc <;> (try (exfalso; omega))))
    refine LoopW.next ⟨i + 1, by omega⟩ (by simp; omega) ?_
    exact (Wk.cut rfl (by simp [hn]) (by simp [wkO, St.lp, getK_cons, getK, Ob.under, D.under, under_rowsD, under_entD, intR]) (by simp [wkU, St.lp, keepE, getK_cons, getK, D.under, intR]) (by simp [wkE, St.lp, keepE, getK_cons, getK, intR] <;> (try (intros; simp_all; done)) <;> (try (intros; omega)) <;> (try grind)))
  obtain rfl : i = N := by omega
  repeat' (first
    | (refine H_cons ?_; simp [intR_len, pre_len, hm])
    | (refine HD2_val rfl ?_; simp [intR_len, pre_len, hm])
    | (refine HD_cons ?_; simp [intR_len, pre_len, hm])
    | (refine HD2_chg rfl ?_; simp [intR_len, pre_len, hm])
    | (refine H_nil ?_; simp [intR_len, pre_len, hm])
    | (refine ⟨by omega, ?_⟩)
    | (refine V_sseq ?_; simp [intR_len, pre_len, hm])
    | (refine V_scond ?_; simp [intR_len, pre_len, hm])
    | (refine HD2_nil (hC _ (by kernel_rfl)) (hk _ ?_); clear hC hk C k; simp only [RK_seq, RK_seq_ret, RK_seq_exit, RK_blk, RK_blk_ret, RK_blk_exit, RK_loop, RK_loop_ret, RK_loop_exit, RK_done])
    | (refine HD_nil ?_)
    | (refine hk _ ?_; clear hk k; simp only [RK_seq, RK_seq_ret, RK_seq_exit, RK_blk, RK_blk_ret, RK_blk_exit, RK_loop, RK_loop_ret, RK_loop_exit, RK_done])
    | (refine V_drawV rfl (by kernel_rfl) (by kernel_rfl) fun k hk => ?_; simp [intR_len, pre_len, hm])
    | (refine V_drawN rfl (by kernel_rfl) (by kernel_rfl) (by simp [hn]) fun C k hC hk => ?_; simp [intR_len, pre_len, hm])
    | (refine HD3_val rfl ?_; simp [intR_len, pre_len, hm])
    | (refine HD3_put ?_; simp [intR_len, pre_len, hm])
    | (refine HD3_chg rfl rfl ?_; simp [intR_len, pre_len, hm])
    | (refine HD3_nil (hC _ _ (by kernel_rfl) (by kernel_rfl)) (hk _ ?_); clear hC hk C k; simp only [RK_seq, RK_seq_ret, RK_seq_exit, RK_blk, RK_blk_ret, RK_blk_exit, RK_loop, RK_loop_ret, RK_loop_exit, RK_done]; simp [St.ins, insL, putE, getK_setOb, getK_cons])
    | (refine V_drawE rfl (by kernel_rfl) (by kernel_rfl) (by simp [hn]) fun C k hC hk => ?_; simp [intR_len, pre_len, hm])
    | (refine HD_guardU rfl (by simp [intR_len, pre_len, hm]) ?_; simp [intR_len, pre_len, hm])
    | (refine HD_guard rfl (by simp [intR_len, pre_len, hm]) (fun hc => ?_) (fun hc => ?_) <;> (try simp [intR_len, pre_len, hm] at hc) <;> (try (exfalso; omega)) <;> (try simp [intR_len, pre_len, hm]))
    | (refine HD2_guardU rfl (by simp [intR_len, pre_len, hm]) ?_; simp [intR_len, pre_len, hm])
    | (refine HD2_guard rfl (by simp [intR_len, pre_len, hm]) (fun hc => ?_) (fun hc => ?_) <;> (try simp [intR_len, pre_len, hm] at hc) <;> (try (exfalso; omega)) <;> (try simp [intR_len, pre_len, hm]))
    | (refine V_sblock ?_; simp [intR_len, pre_len, hm])
    | (refine V_sregion ?_; simp [intR_len, pre_len, hm])
    | (refine V_ret ?_; simp only [RK_seq, RK_seq_ret, RK_seq_exit, RK_blk, RK_blk_ret, RK_blk_exit, RK_loop, RK_loop_ret, RK_loop_exit, RK_done])
    | (refine V_skip ?_; simp only [RK_seq, RK_seq_ret, RK_seq_exit, RK_blk, RK_blk_ret, RK_blk_exit, RK_loop, RK_loop_ret, RK_loop_exit, RK_done])
    | (refine V_exit ?_; simp [RK_seq, RK_seq_ret, RK_seq_exit, RK_blk, RK_blk_ret, RK_blk_exit, RK_loop, RK_loop_ret, RK_loop_exit, RK_done])
    | (refine ⟨?_, by omega⟩)
    | (refine ⟨fun hc => ?_, fun hc => ?_⟩ <;> (try (exfalso; omega)))
    | (intro hc <;> (try (exfalso; omega))))
  refine V_loopO (α := { k : Nat // k ≤ K }) [1, 2, 7, 9, 41] (fun k => [(42, .u (.int .i64 k.1))]) (fun k => [(0, .vec 3 1 (intR (drawG s i k.1))), (1, .box [.u (.int .i64 (xsS s k.1))])]) 2 (fun k => K - k.1) ⟨0, by omega⟩ ?_ ?_
  · exact (Wk.cut rfl (by simp [hn]) (by simp [wkO, St.lp, getK_cons, getK, Ob.under, D.under, under_rowsD, under_entD, pre_all s, xsS, intR]) (by simp [wkU, St.lp, keepE, getK_cons, getK, D.under, pre_all s, xsS, intR]) (by simp [wkE, St.lp, keepE, getK_cons, getK, pre_all s, xsS, intR] <;> (try (intros; simp_all; done)) <;> (try (intros; omega)) <;> (try grind)))
  rintro ⟨q, hq⟩
  simp [St.lp, St.only, keepE, getK_cons, getK]
  by_cases hlt : q < K
  · have hqi : q < i := by omega
    have hx := xsS_range s q
    have hnr := next_ret 1 2 (by omega) (xsS s q) hx.1 hx.2
    have hxe : nxS (xsS s q) = xsS s (q + 1) := rfl
    rw [hxe] at hnr
    have hx2 := xsS_range s (q + 1)
    have hJ := drawJ_eq s (show q < i by omega)
    have hJr := drawJ_range s (show q < i by omega)
    have hga : (drawG s i q)[q]? = some ((drawG s i q).getD q 0) := by simp [drawG_length, show q < i by omega]
    have hgb : (drawG s i q)[drawJ s i q]? = some ((drawG s i q).getD (drawJ s i q) 0) := by simp [drawG_length, hJr.2]
    have hst : ∀ h1 h2, ((drawG s i q).set q ((drawG s i q)[drawJ s i q]'h1)).set (drawJ s i q) ((drawG s i q)[q]'h2) = drawG s i (q + 1) := fun h1 h2 => by
      rw [drawG, swp, List.getD_eq_getElem?_getD, List.getD_eq_getElem?_getD, List.getElem?_eq_getElem h1, List.getElem?_eq_getElem h2]
      rfl
    repeat' (first
    | (refine H_cons ?_; simp [intR_len, drawG_length, intR_getE, intR_set, hJ, hJr.2, hlt, hqi, del, getK_append, hst])
    | (refine HD2_val rfl ?_; simp [intR_len, drawG_length, intR_getE, intR_set, hJ, hJr.2, hlt, hqi, del, getK_append, hst])
    | (refine HD_cons ?_; simp [intR_len, drawG_length, intR_getE, intR_set, hJ, hJr.2, hlt, hqi, del, getK_append, hst])
    | (refine HD2_chg rfl ?_; simp [intR_len, drawG_length, intR_getE, intR_set, hJ, hJr.2, hlt, hqi, del, getK_append, hst])
    | (refine H_nil ?_; simp [intR_len, drawG_length, intR_getE, intR_set, hJ, hJr.2, hlt, hqi, del, getK_append, hst])
    | (refine ⟨by omega, ?_⟩)
    | (refine V_sseq ?_; simp [intR_len, drawG_length, intR_getE, intR_set, hJ, hJr.2, hlt, hqi, del, getK_append, hst])
    | (refine V_scond ?_; simp [intR_len, drawG_length, intR_getE, intR_set, hJ, hJr.2, hlt, hqi, del, getK_append, hst])
    | (refine HD2_nil (hC _ (by kernel_rfl)) (hk _ ?_); clear hC hk C k; simp only [RK_seq, RK_seq_ret, RK_seq_exit, RK_blk, RK_blk_ret, RK_blk_exit, RK_loop, RK_loop_ret, RK_loop_exit, RK_done])
    | (refine HD_nil ?_)
    | (refine hk _ ?_; clear hk k; simp only [RK_seq, RK_seq_ret, RK_seq_exit, RK_blk, RK_blk_ret, RK_blk_exit, RK_loop, RK_loop_ret, RK_loop_exit, RK_done])
    | (refine V_drawV rfl (by kernel_rfl) (by kernel_rfl) fun k hk => ?_; simp [intR_len, drawG_length, intR_getE, intR_set, hJ, hJr.2, hlt, hqi, del, getK_append, hst])
    | (refine V_drawN rfl (by kernel_rfl) (by kernel_rfl) (by simp [hn]) fun C k hC hk => ?_; simp [intR_len, drawG_length, intR_getE, intR_set, hJ, hJr.2, hlt, hqi, del, getK_append, hst])
    | (refine HD3_val rfl ?_; simp [intR_len, drawG_length, intR_getE, intR_set, hJ, hJr.2, hlt, hqi, del, getK_append, hst])
    | (refine HD3_put ?_; simp [intR_len, drawG_length, intR_getE, intR_set, hJ, hJr.2, hlt, hqi, del, getK_append, hst])
    | (refine HD3_chg rfl rfl ?_; simp [intR_len, drawG_length, intR_getE, intR_set, hJ, hJr.2, hlt, hqi, del, getK_append, hst])
    | (refine HD3_nil (hC _ _ (by kernel_rfl) (by kernel_rfl)) (hk _ ?_); clear hC hk C k; simp only [RK_seq, RK_seq_ret, RK_seq_exit, RK_blk, RK_blk_ret, RK_blk_exit, RK_loop, RK_loop_ret, RK_loop_exit, RK_done]; simp [St.ins, insL, putE, getK_setOb, getK_cons])
    | (refine V_drawE rfl (by kernel_rfl) (by kernel_rfl) (by simp [hn]) fun C k hC hk => ?_; simp [intR_len, drawG_length, intR_getE, intR_set, hJ, hJr.2, hlt, hqi, del, getK_append, hst])
    | (refine HD_guardU rfl (by simp [intR_len, drawG_length, intR_getE, intR_set, hJ, hJr.2, hlt, hqi, del, getK_append, hst]) ?_; simp [intR_len, drawG_length, intR_getE, intR_set, hJ, hJr.2, hlt, hqi, del, getK_append, hst])
    | (refine HD_guard rfl (by simp [intR_len, drawG_length, intR_getE, intR_set, hJ, hJr.2, hlt, hqi, del, getK_append, hst]) (fun hc => ?_) (fun hc => ?_) <;> (try simp [intR_len, drawG_length, intR_getE, intR_set, hJ, hJr.2, hlt, hqi, del, getK_append, hst] at hc) <;> (try (exfalso; omega)) <;> (try simp [intR_len, drawG_length, intR_getE, intR_set, hJ, hJr.2, hlt, hqi, del, getK_append, hst]))
    | (refine HD2_guardU rfl (by simp [intR_len, drawG_length, intR_getE, intR_set, hJ, hJr.2, hlt, hqi, del, getK_append, hst]) ?_; simp [intR_len, drawG_length, intR_getE, intR_set, hJ, hJr.2, hlt, hqi, del, getK_append, hst])
    | (refine HD2_guard rfl (by simp [intR_len, drawG_length, intR_getE, intR_set, hJ, hJr.2, hlt, hqi, del, getK_append, hst]) (fun hc => ?_) (fun hc => ?_) <;> (try simp [intR_len, drawG_length, intR_getE, intR_set, hJ, hJr.2, hlt, hqi, del, getK_append, hst] at hc) <;> (try (exfalso; omega)) <;> (try simp [intR_len, drawG_length, intR_getE, intR_set, hJ, hJr.2, hlt, hqi, del, getK_append, hst]))
    | (refine V_sblock ?_; simp [intR_len, drawG_length, intR_getE, intR_set, hJ, hJr.2, hlt, hqi, del, getK_append, hst])
    | (refine V_sregion ?_; simp [intR_len, drawG_length, intR_getE, intR_set, hJ, hJr.2, hlt, hqi, del, getK_append, hst])
    | (refine V_ret ?_; simp only [RK_seq, RK_seq_ret, RK_seq_exit, RK_blk, RK_blk_ret, RK_blk_exit, RK_loop, RK_loop_ret, RK_loop_exit, RK_done])
    | (refine V_skip ?_; simp only [RK_seq, RK_seq_ret, RK_seq_exit, RK_blk, RK_blk_ret, RK_blk_exit, RK_loop, RK_loop_ret, RK_loop_exit, RK_done])
    | (refine V_exit ?_; simp [RK_seq, RK_seq_ret, RK_seq_exit, RK_blk, RK_blk_ret, RK_blk_exit, RK_loop, RK_loop_ret, RK_loop_exit, RK_done])
    | (refine ⟨?_, by omega⟩)
    | (refine ⟨fun hc => ?_, fun hc => ?_⟩ <;> (try (exfalso; omega)))
    | (intro hc <;> (try (exfalso; omega)))
    | (refine CallP.ret1 (hnr) (by simp [getK]) (by rfl) (by first | assumption | simp) (by rfl) (by simp) ?_; rintro d o n' hn' ⟨rfl, rfl, rfl⟩; (try simp at hn'); (try simp [intR_len, drawG_length, intR_getE, intR_set, hJ, hJr.2, hlt, hqi, del, getK_append, hst])))
    refine LoopW.next ⟨q + 1, by omega⟩ (by simp; omega) ?_
    exact (Wk.cut rfl (by simp [hn]) (by simp [wkO, St.lp, getK_cons, getK, Ob.under, D.under, under_rowsD, under_entD, intR]) (by simp [wkU, St.lp, keepE, getK_cons, getK, D.under, intR]) (by simp [wkE, St.lp, keepE, getK_cons, getK, intR] <;> (try (intros; simp_all; done)) <;> (try (intros; omega)) <;> (try grind)))
  obtain rfl : q = K := by omega
  repeat' (first
    | (refine H_cons ?_; simp [intR_len, drawG_length, intR_take, intR_all, hK])
    | (refine HD2_val rfl ?_; simp [intR_len, drawG_length, intR_take, intR_all, hK])
    | (refine HD_cons ?_; simp [intR_len, drawG_length, intR_take, intR_all, hK])
    | (refine HD2_chg rfl ?_; simp [intR_len, drawG_length, intR_take, intR_all, hK])
    | (refine H_nil ?_; simp [intR_len, drawG_length, intR_take, intR_all, hK])
    | (refine ⟨by omega, ?_⟩)
    | (refine V_sseq ?_; simp [intR_len, drawG_length, intR_take, intR_all, hK])
    | (refine V_scond ?_; simp [intR_len, drawG_length, intR_take, intR_all, hK])
    | (refine HD2_nil (hC _ (by kernel_rfl)) (hk _ ?_); clear hC hk C k; simp only [RK_seq, RK_seq_ret, RK_seq_exit, RK_blk, RK_blk_ret, RK_blk_exit, RK_loop, RK_loop_ret, RK_loop_exit, RK_done])
    | (refine HD_nil ?_)
    | (refine hk _ ?_; clear hk k; simp only [RK_seq, RK_seq_ret, RK_seq_exit, RK_blk, RK_blk_ret, RK_blk_exit, RK_loop, RK_loop_ret, RK_loop_exit, RK_done])
    | (refine V_drawV rfl (by kernel_rfl) (by kernel_rfl) fun k hk => ?_; simp [intR_len, drawG_length, intR_take, intR_all, hK])
    | (refine V_drawN rfl (by kernel_rfl) (by kernel_rfl) (by simp [hn]) fun C k hC hk => ?_; simp [intR_len, drawG_length, intR_take, intR_all, hK])
    | (refine HD3_val rfl ?_; simp [intR_len, drawG_length, intR_take, intR_all, hK])
    | (refine HD3_put ?_; simp [intR_len, drawG_length, intR_take, intR_all, hK])
    | (refine HD3_chg rfl rfl ?_; simp [intR_len, drawG_length, intR_take, intR_all, hK])
    | (refine HD3_nil (hC _ _ (by kernel_rfl) (by kernel_rfl)) (hk _ ?_); clear hC hk C k; simp only [RK_seq, RK_seq_ret, RK_seq_exit, RK_blk, RK_blk_ret, RK_blk_exit, RK_loop, RK_loop_ret, RK_loop_exit, RK_done]; simp [St.ins, insL, putE, getK_setOb, getK_cons])
    | (refine V_drawE rfl (by kernel_rfl) (by kernel_rfl) (by simp [hn]) fun C k hC hk => ?_; simp [intR_len, drawG_length, intR_take, intR_all, hK])
    | (refine HD_guardU rfl (by simp [intR_len, drawG_length, intR_take, intR_all, hK]) ?_; simp [intR_len, drawG_length, intR_take, intR_all, hK])
    | (refine HD_guard rfl (by simp [intR_len, drawG_length, intR_take, intR_all, hK]) (fun hc => ?_) (fun hc => ?_) <;> (try simp [intR_len, drawG_length, intR_take, intR_all, hK] at hc) <;> (try (exfalso; omega)) <;> (try simp [intR_len, drawG_length, intR_take, intR_all, hK]))
    | (refine HD2_guardU rfl (by simp [intR_len, drawG_length, intR_take, intR_all, hK]) ?_; simp [intR_len, drawG_length, intR_take, intR_all, hK])
    | (refine HD2_guard rfl (by simp [intR_len, drawG_length, intR_take, intR_all, hK]) (fun hc => ?_) (fun hc => ?_) <;> (try simp [intR_len, drawG_length, intR_take, intR_all, hK] at hc) <;> (try (exfalso; omega)) <;> (try simp [intR_len, drawG_length, intR_take, intR_all, hK]))
    | (refine V_sblock ?_; simp [intR_len, drawG_length, intR_take, intR_all, hK])
    | (refine V_sregion ?_; simp [intR_len, drawG_length, intR_take, intR_all, hK])
    | (refine V_ret ?_; simp only [RK_seq, RK_seq_ret, RK_seq_exit, RK_blk, RK_blk_ret, RK_blk_exit, RK_loop, RK_loop_ret, RK_loop_exit, RK_done])
    | (refine V_skip ?_; simp only [RK_seq, RK_seq_ret, RK_seq_exit, RK_blk, RK_blk_ret, RK_blk_exit, RK_loop, RK_loop_ret, RK_loop_exit, RK_done])
    | (refine V_exit ?_; simp [RK_seq, RK_seq_ret, RK_seq_exit, RK_blk, RK_blk_ret, RK_blk_exit, RK_loop, RK_loop_ret, RK_loop_exit, RK_done])
    | (refine ⟨?_, by omega⟩)
    | (refine ⟨fun hc => ?_, fun hc => ?_⟩ <;> (try (exfalso; omega)))
    | (intro hc <;> (try (exfalso; omega)))
    | (refine CallV.fun_ (hcl) (by first | rfl | fail) (by first | assumption | (simp; done) | fail) (by first | (simp [intR_len, drawG_length, intR_take, intR_all, hK]; done) | (simp [intR_len, drawG_length, intR_take, intR_all, hK]; rfl) | fail) (by first | (simp; done) | fail) ?_ <;> (try simp [intR_len, drawG_length, intR_take, intR_all, hK]))
    | (refine CallP.fun_ (hcl) (by first | rfl | fail) (by first | assumption | (simp; done) | fail) (by first | (simp [intR_len, drawG_length, intR_take, intR_all, hK]; done) | (simp [intR_len, drawG_length, intR_take, intR_all, hK]; rfl) | fail) (by first | (simp; done) | fail) (fun d hd => ?_); subst hd; (try simp [intR_len, drawG_length, intR_take, intR_all, hK])))
  refine EndW.norm (EndW.here ?_)
  (refine EndOK.val (.inr rfl) ?_; simp [resD, oneOrTup, pureD, Try.results14, frz_obs, frz_env, norm_obs, norm_env, frz, frzOb, frzS, fv, fzVec, fzMap, fzBox, frzObS, frz_entD, frz_rowsD, normD, normU, norm1, normOb])
end Go.Proofs.Ytmebfcehkfaiaaa
