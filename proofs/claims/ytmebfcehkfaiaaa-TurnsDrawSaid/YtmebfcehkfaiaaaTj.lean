/- Layer 23: the reference's Order, Next of both, the spread: the walks. -/
import Derived.Test.YtmebfcehkfaiaaaTi
import Derived.Test.YtmebfcehkfaiaaaTk
set_option linter.all false
set_option maxRecDepth 100000
set_option maxHeartbeats 8000000
set_option linter.all false
namespace Go.Proofs.Ytmebfcehkfaiaaa
open Go Go.VL
attribute [local simp] hcons hstep evPure opd uOf putOK St.put St.at getK binD binI binS binB nilD aggD eqUs cmpK lookD lookR rangeD nextD entryD keyD valU keyU lookK mkV entD_nil lookK_entD updK_entD1 updK_entD2 updK_entD3 allUE allUE_entD makeMapD mapUpdD mapEff updK valM Key.kk shiftI arith unD convD pickD loadD cellsAt fieldAddrD fieldD indexAddrD indexD sliceD cutD lenD minmaxD nilCheckD buildD fillD cellsD isOne ones setAll mkAgg allU allocD boxD storeD St.add buildSliceD appendD rowsOf makeD setOb getK_setOb getK_del getK_cons stripL strip guardTmp entry chunks zcells valD argsV argsW argW argU1 argU0 argsU0 argsU1 calleeOf scalarD scalarU delAll effD St.effS RK_seq RK_seq_ret RK_seq_exit RK_blk RK_blk_ret RK_blk_exit RK_loop RK_loop_ret RK_loop_exit RK_done vs_seq vs_block vs_skip vs_label vs_exit vs_ret vs_cond vs_region vs_loop vs_draw vs_range vs_scope applyW mkD rdIds lentIds callOf calleeOf freeOp D.ids Op.operands Call.operands isEffOp IntKind.bits allU2 allU2_append List.take_of_length_le List.range_succ
attribute [local irreducible] V G H HD HD2 RunK Eff CallP CallV EndOK Fun Ret FinOK LoopI LoopW EndW
theorem rorder_fun (l : List Int) (kind seed : Int) (hl : l.length ≤ 1000000) : Fun Try.prog 13 [.u (ints l), .u (.int .i64 kind), .u (.int .i64 seed)] (· = .u (ints (orderS l kind seed))) := by
  have hrf := right_fun l hl
  have hdf := rdraw_fun seed l.length l.length
  rcases (show validB l kind = false ∨ validB l kind = true by cases validB l kind <;> simp) with hv | hv
  · have ho : orderS l kind seed = [] := by simp [orderS, hv]
    rw [ho]
    rw [validB_eq] at hv
    have hv2 : rightS l = true → 0 ≤ kind → ¬ kind < 3 := by simpa using hv
    by_cases h0 : rightS l = true
    · rw [h0] at hrf
      by_cases hk0 : kind < 0
      · (refine Fun.of_bodyW Try.func13 rfl (by simp) fun Γ hn => ?_); simp only [entry, List.zipIdx_cons, List.zipIdx_nil, List.map_cons, List.map_nil, Nat.zero_add, Try.ntmps13]
        repeat' (first
    | (refine H_cons ?_; simp [hk0])
    | (refine HD2_val rfl ?_; simp [hk0])
    | (refine HD_cons ?_; simp [hk0])
    | (refine HD2_chg rfl ?_; simp [hk0])
    | (refine H_nil ?_; simp [hk0])
    | (refine ⟨by omega, ?_⟩)
    | (refine V_sseq ?_; simp [hk0])
    | (refine V_scond ?_; simp [hk0])
    | (refine HD2_nil (hC _ (by kernel_rfl)) (hk _ ?_); clear hC hk C k; simp only [RK_seq, RK_seq_ret, RK_seq_exit, RK_blk, RK_blk_ret, RK_blk_exit, RK_loop, RK_loop_ret, RK_loop_exit, RK_done])
    | (refine HD_nil ?_)
    | (refine hk _ ?_; clear hk k; simp only [RK_seq, RK_seq_ret, RK_seq_exit, RK_blk, RK_blk_ret, RK_blk_exit, RK_loop, RK_loop_ret, RK_loop_exit, RK_done])
    | (refine V_drawV rfl (by kernel_rfl) (by kernel_rfl) fun k hk => ?_; simp [hk0])
    | (refine V_drawN rfl (by kernel_rfl) (by kernel_rfl) (by simp [hn]) fun C k hC hk => ?_; simp [hk0])
    | (refine HD3_val rfl ?_; simp [hk0])
    | (refine HD3_put ?_; simp [hk0])
    | (refine HD3_chg rfl rfl ?_; simp [hk0])
    | (refine HD3_nil (hC _ _ (by kernel_rfl) (by kernel_rfl)) (hk _ ?_); clear hC hk C k; simp only [RK_seq, RK_seq_ret, RK_seq_exit, RK_blk, RK_blk_ret, RK_blk_exit, RK_loop, RK_loop_ret, RK_loop_exit, RK_done]; simp [St.ins, insL, putE, getK_setOb, getK_cons])
    | (refine V_drawE rfl (by kernel_rfl) (by kernel_rfl) (by simp [hn]) fun C k hC hk => ?_; simp [hk0])
    | (refine HD_guardU rfl (by simp [hk0]) ?_; simp [hk0])
    | (refine HD_guard rfl (by simp [hk0]) (fun hc => ?_) (fun hc => ?_) <;> (try simp [hk0] at hc) <;> (try (exfalso; omega)) <;> (try simp [hk0]))
    | (refine HD2_guardU rfl (by simp [hk0]) ?_; simp [hk0])
    | (refine HD2_guard rfl (by simp [hk0]) (fun hc => ?_) (fun hc => ?_) <;> (try simp [hk0] at hc) <;> (try (exfalso; omega)) <;> (try simp [hk0]))
    | (refine V_sblock ?_; simp [hk0])
    | (refine V_sregion ?_; simp [hk0])
    | (refine V_ret ?_; simp only [RK_seq, RK_seq_ret, RK_seq_exit, RK_blk, RK_blk_ret, RK_blk_exit, RK_loop, RK_loop_ret, RK_loop_exit, RK_done])
    | (refine V_skip ?_; simp only [RK_seq, RK_seq_ret, RK_seq_exit, RK_blk, RK_blk_ret, RK_blk_exit, RK_loop, RK_loop_ret, RK_loop_exit, RK_done])
    | (refine V_exit ?_; simp [RK_seq, RK_seq_ret, RK_seq_exit, RK_blk, RK_blk_ret, RK_blk_exit, RK_loop, RK_loop_ret, RK_loop_exit, RK_done])
    | (refine ⟨?_, by omega⟩)
    | (refine ⟨fun hc => ?_, fun hc => ?_⟩ <;> (try (exfalso; omega)))
    | (intro hc <;> (try (exfalso; omega)))
    | (refine CallV.fun_ (hrf) (by first | rfl | fail) (by first | assumption | (simp; done) | fail) (by first | (simp [hk0]; done) | (simp [hk0]; rfl) | fail) (by first | (simp; done) | fail) ?_ <;> (try simp [hk0]))
    | (refine CallP.fun_ (hrf) (by first | rfl | fail) (by first | assumption | (simp; done) | fail) (by first | (simp [hk0]; done) | (simp [hk0]; rfl) | fail) (by first | (simp; done) | fail) (fun d hd => ?_); subst hd; (try simp [hk0])))
        all_goals
          refine EndW.norm (EndW.here ?_)
          (refine EndOK.val (.inr rfl) ?_; simp [resD, oneOrTup, pureD, Try.results13, frz_obs, frz_env, norm_obs, norm_env, frz, frzOb, frzS, fv, fzVec, fzMap, fzBox, frzObS, frz_entD, frz_rowsD, normD, normU, norm1, normOb])
      have hk3 : 3 ≤ kind := by have := hv2 h0; omega
      (refine Fun.of_bodyW Try.func13 rfl (by simp) fun Γ hn => ?_); simp only [entry, List.zipIdx_cons, List.zipIdx_nil, List.map_cons, List.map_nil, Nat.zero_add, Try.ntmps13]
      repeat' (first
    | (refine H_cons ?_; simp [hk0, hk3])
    | (refine HD2_val rfl ?_; simp [hk0, hk3])
    | (refine HD_cons ?_; simp [hk0, hk3])
    | (refine HD2_chg rfl ?_; simp [hk0, hk3])
    | (refine H_nil ?_; simp [hk0, hk3])
    | (refine ⟨by omega, ?_⟩)
    | (refine V_sseq ?_; simp [hk0, hk3])
    | (refine V_scond ?_; simp [hk0, hk3])
    | (refine HD2_nil (hC _ (by kernel_rfl)) (hk _ ?_); clear hC hk C k; simp only [RK_seq, RK_seq_ret, RK_seq_exit, RK_blk, RK_blk_ret, RK_blk_exit, RK_loop, RK_loop_ret, RK_loop_exit, RK_done])
    | (refine HD_nil ?_)
    | (refine hk _ ?_; clear hk k; simp only [RK_seq, RK_seq_ret, RK_seq_exit, RK_blk, RK_blk_ret, RK_blk_exit, RK_loop, RK_loop_ret, RK_loop_exit, RK_done])
    | (refine V_drawV rfl (by kernel_rfl) (by kernel_rfl) fun k hk => ?_; simp [hk0, hk3])
    | (refine V_drawN rfl (by kernel_rfl) (by kernel_rfl) (by simp [hn]) fun C k hC hk => ?_; simp [hk0, hk3])
    | (refine HD3_val rfl ?_; simp [hk0, hk3])
    | (refine HD3_put ?_; simp [hk0, hk3])
    | (refine HD3_chg rfl rfl ?_; simp [hk0, hk3])
    | (refine HD3_nil (hC _ _ (by kernel_rfl) (by kernel_rfl)) (hk _ ?_); clear hC hk C k; simp only [RK_seq, RK_seq_ret, RK_seq_exit, RK_blk, RK_blk_ret, RK_blk_exit, RK_loop, RK_loop_ret, RK_loop_exit, RK_done]; simp [St.ins, insL, putE, getK_setOb, getK_cons])
    | (refine V_drawE rfl (by kernel_rfl) (by kernel_rfl) (by simp [hn]) fun C k hC hk => ?_; simp [hk0, hk3])
    | (refine HD_guardU rfl (by simp [hk0, hk3]) ?_; simp [hk0, hk3])
    | (refine HD_guard rfl (by simp [hk0, hk3]) (fun hc => ?_) (fun hc => ?_) <;> (try simp [hk0, hk3] at hc) <;> (try (exfalso; omega)) <;> (try simp [hk0, hk3]))
    | (refine HD2_guardU rfl (by simp [hk0, hk3]) ?_; simp [hk0, hk3])
    | (refine HD2_guard rfl (by simp [hk0, hk3]) (fun hc => ?_) (fun hc => ?_) <;> (try simp [hk0, hk3] at hc) <;> (try (exfalso; omega)) <;> (try simp [hk0, hk3]))
    | (refine V_sblock ?_; simp [hk0, hk3])
    | (refine V_sregion ?_; simp [hk0, hk3])
    | (refine V_ret ?_; simp only [RK_seq, RK_seq_ret, RK_seq_exit, RK_blk, RK_blk_ret, RK_blk_exit, RK_loop, RK_loop_ret, RK_loop_exit, RK_done])
    | (refine V_skip ?_; simp only [RK_seq, RK_seq_ret, RK_seq_exit, RK_blk, RK_blk_ret, RK_blk_exit, RK_loop, RK_loop_ret, RK_loop_exit, RK_done])
    | (refine V_exit ?_; simp [RK_seq, RK_seq_ret, RK_seq_exit, RK_blk, RK_blk_ret, RK_blk_exit, RK_loop, RK_loop_ret, RK_loop_exit, RK_done])
    | (refine ⟨?_, by omega⟩)
    | (refine ⟨fun hc => ?_, fun hc => ?_⟩ <;> (try (exfalso; omega)))
    | (intro hc <;> (try (exfalso; omega)))
    | (refine CallV.fun_ (hrf) (by first | rfl | fail) (by first | assumption | (simp; done) | fail) (by first | (simp [hk0, hk3]; done) | (simp [hk0, hk3]; rfl) | fail) (by first | (simp; done) | fail) ?_ <;> (try simp [hk0, hk3]))
    | (refine CallP.fun_ (hrf) (by first | rfl | fail) (by first | assumption | (simp; done) | fail) (by first | (simp [hk0, hk3]; done) | (simp [hk0, hk3]; rfl) | fail) (by first | (simp; done) | fail) (fun d hd => ?_); subst hd; (try simp [hk0, hk3])))
      all_goals
        refine EndW.norm (EndW.here ?_)
        (refine EndOK.val (.inr rfl) ?_; simp [resD, oneOrTup, pureD, Try.results13, frz_obs, frz_env, norm_obs, norm_env, frz, frzOb, frzS, fv, fzVec, fzMap, fzBox, frzObS, frz_entD, frz_rowsD, normD, normU, norm1, normOb])
    rw [show rightS l = false by simpa using h0] at hrf
    (refine Fun.of_bodyW Try.func13 rfl (by simp) fun Γ hn => ?_); simp only [entry, List.zipIdx_cons, List.zipIdx_nil, List.map_cons, List.map_nil, Nat.zero_add, Try.ntmps13]
    repeat' (first
    | (refine H_cons ?_; simp)
    | (refine HD2_val rfl ?_; simp)
    | (refine HD_cons ?_; simp)
    | (refine HD2_chg rfl ?_; simp)
    | (refine H_nil ?_; simp)
    | (refine ⟨by omega, ?_⟩)
    | (refine V_sseq ?_; simp)
    | (refine V_scond ?_; simp)
    | (refine HD2_nil (hC _ (by kernel_rfl)) (hk _ ?_); clear hC hk C k; simp only [RK_seq, RK_seq_ret, RK_seq_exit, RK_blk, RK_blk_ret, RK_blk_exit, RK_loop, RK_loop_ret, RK_loop_exit, RK_done])
    | (refine HD_nil ?_)
    | (refine hk _ ?_; clear hk k; simp only [RK_seq, RK_seq_ret, RK_seq_exit, RK_blk, RK_blk_ret, RK_blk_exit, RK_loop, RK_loop_ret, RK_loop_exit, RK_done])
    | (refine V_drawV rfl (by kernel_rfl) (by kernel_rfl) fun k hk => ?_; simp)
    | (refine V_drawN rfl (by kernel_rfl) (by kernel_rfl) (by simp [hn]) fun C k hC hk => ?_; simp)
    | (refine HD3_val rfl ?_; simp)
    | (refine HD3_put ?_; simp)
    | (refine HD3_chg rfl rfl ?_; simp)
    | (refine HD3_nil (hC _ _ (by kernel_rfl) (by kernel_rfl)) (hk _ ?_); clear hC hk C k; simp only [RK_seq, RK_seq_ret, RK_seq_exit, RK_blk, RK_blk_ret, RK_blk_exit, RK_loop, RK_loop_ret, RK_loop_exit, RK_done]; simp [St.ins, insL, putE, getK_setOb, getK_cons])
    | (refine V_drawE rfl (by kernel_rfl) (by kernel_rfl) (by simp [hn]) fun C k hC hk => ?_; simp)
    | (refine HD_guardU rfl (by simp) ?_; simp)
    | (refine HD_guard rfl (by simp) (fun hc => ?_) (fun hc => ?_) <;> (try simp at hc) <;> (try (exfalso; omega)) <;> (try simp))
    | (refine HD2_guardU rfl (by simp) ?_; simp)
    | (refine HD2_guard rfl (by simp) (fun hc => ?_) (fun hc => ?_) <;> (try simp at hc) <;> (try (exfalso; omega)) <;> (try simp))
    | (refine V_sblock ?_; simp)
    | (refine V_sregion ?_; simp)
    | (refine V_ret ?_; simp only [RK_seq, RK_seq_ret, RK_seq_exit, RK_blk, RK_blk_ret, RK_blk_exit, RK_loop, RK_loop_ret, RK_loop_exit, RK_done])
    | (refine V_skip ?_; simp only [RK_seq, RK_seq_ret, RK_seq_exit, RK_blk, RK_blk_ret, RK_blk_exit, RK_loop, RK_loop_ret, RK_loop_exit, RK_done])
    | (refine V_exit ?_; simp [RK_seq, RK_seq_ret, RK_seq_exit, RK_blk, RK_blk_ret, RK_blk_exit, RK_loop, RK_loop_ret, RK_loop_exit, RK_done])
    | (refine ⟨?_, by omega⟩)
    | (refine ⟨fun hc => ?_, fun hc => ?_⟩ <;> (try (exfalso; omega)))
    | (intro hc <;> (try (exfalso; omega)))
    | (refine CallV.fun_ (hrf) (by first | rfl | fail) (by first | assumption | (simp; done) | fail) (by first | (simp; done) | (simp; rfl) | fail) (by first | (simp; done) | fail) ?_ <;> (try simp))
    | (refine CallP.fun_ (hrf) (by first | rfl | fail) (by first | assumption | (simp; done) | fail) (by first | (simp; done) | (simp; rfl) | fail) (by first | (simp; done) | fail) (fun d hd => ?_); subst hd; (try simp)))
    all_goals
      refine EndW.norm (EndW.here ?_)
      (refine EndOK.val (.inr rfl) ?_; simp [resD, oneOrTup, pureD, Try.results13, frz_obs, frz_env, norm_obs, norm_env, frz, frzOb, frzS, fv, fzVec, fzMap, fzBox, frzObS, frz_entD, frz_rowsD, normD, normU, norm1, normOb])
  have hv0 := hv
  rw [validB_eq] at hv0
  have hv1 : rightS l = true ∧ 0 ≤ kind ∧ kind < 3 := by simp only [Bool.and_eq_true, decide_eq_true_eq] at hv0; exact ⟨hv0.1.1, hv0.1.2, hv0.2⟩
  obtain ⟨hr, hk0, hk3⟩ := hv1
  rw [hr] at hrf
  have h60 : l.length ≤ 60 := by
    simp [rightS] at hr
    omega
  by_cases hk1 : kind = 1
  · subst hk1
    have ho : orderS l 1 seed = (drawS seed l.length l.length).map fun j => l.getD j.toNat 0 := by simp [orderS, hv]
    rw [ho]
    (refine Fun.of_bodyW Try.func13 rfl (by simp) fun Γ hn => ?_); simp only [entry, List.zipIdx_cons, List.zipIdx_nil, List.map_cons, List.map_nil, Nat.zero_add, Try.ntmps13]
    have hD : drawS seed l.length l.length = drawG seed l.length l.length := by
      rw [drawS, if_neg (by omega)]
      simp only [Int.toNat_natCast]
      rw [List.take_of_length_le (by rw [drawG_length]; exact Nat.le_refl _)]
    have hDl := drawG_length seed l.length l.length
    have hDr : ∀ k z, (drawG seed l.length l.length)[k]? = some z → ∃ Z : Nat, z = (Z : Int) ∧ Z < l.length := fun k z hz => by
      have := (drawG_perm seed l.length l.length (Nat.le_refl _)).mem_iff.1 (List.mem_of_getElem? hz)
      obtain ⟨Z, hZ, rfl⟩ := List.mem_map.1 this
      exact ⟨Z, rfl, List.mem_range.1 hZ⟩
    rw [hD] at hdf ⊢
    generalize drawG seed l.length l.length = dl at hdf hDl hDr
    repeat' (first
    | (refine H_cons ?_; simp)
    | (refine HD2_val rfl ?_; simp)
    | (refine HD_cons ?_; simp)
    | (refine HD2_chg rfl ?_; simp)
    | (refine H_nil ?_; simp)
    | (refine ⟨by omega, ?_⟩)
    | (refine V_sseq ?_; simp)
    | (refine V_scond ?_; simp)
    | (refine HD2_nil (hC _ (by kernel_rfl)) (hk _ ?_); clear hC hk C k; simp only [RK_seq, RK_seq_ret, RK_seq_exit, RK_blk, RK_blk_ret, RK_blk_exit, RK_loop, RK_loop_ret, RK_loop_exit, RK_done])
    | (refine HD_nil ?_)
    | (refine hk _ ?_; clear hk k; simp only [RK_seq, RK_seq_ret, RK_seq_exit, RK_blk, RK_blk_ret, RK_blk_exit, RK_loop, RK_loop_ret, RK_loop_exit, RK_done])
    | (refine V_drawV rfl (by kernel_rfl) (by kernel_rfl) fun k hk => ?_; simp)
    | (refine V_drawN rfl (by kernel_rfl) (by kernel_rfl) (by simp [hn]) fun C k hC hk => ?_; simp)
    | (refine HD3_val rfl ?_; simp)
    | (refine HD3_put ?_; simp)
    | (refine HD3_chg rfl rfl ?_; simp)
    | (refine HD3_nil (hC _ _ (by kernel_rfl) (by kernel_rfl)) (hk _ ?_); clear hC hk C k; simp only [RK_seq, RK_seq_ret, RK_seq_exit, RK_blk, RK_blk_ret, RK_blk_exit, RK_loop, RK_loop_ret, RK_loop_exit, RK_done]; simp [St.ins, insL, putE, getK_setOb, getK_cons])
    | (refine V_drawE rfl (by kernel_rfl) (by kernel_rfl) (by simp [hn]) fun C k hC hk => ?_; simp)
    | (refine HD_guardU rfl (by simp) ?_; simp)
    | (refine HD_guard rfl (by simp) (fun hc => ?_) (fun hc => ?_) <;> (try simp at hc) <;> (try (exfalso; omega)) <;> (try simp))
    | (refine HD2_guardU rfl (by simp) ?_; simp)
    | (refine HD2_guard rfl (by simp) (fun hc => ?_) (fun hc => ?_) <;> (try simp at hc) <;> (try (exfalso; omega)) <;> (try simp))
    | (refine V_sblock ?_; simp)
    | (refine V_sregion ?_; simp)
    | (refine V_ret ?_; simp only [RK_seq, RK_seq_ret, RK_seq_exit, RK_blk, RK_blk_ret, RK_blk_exit, RK_loop, RK_loop_ret, RK_loop_exit, RK_done])
    | (refine V_skip ?_; simp only [RK_seq, RK_seq_ret, RK_seq_exit, RK_blk, RK_blk_ret, RK_blk_exit, RK_loop, RK_loop_ret, RK_loop_exit, RK_done])
    | (refine V_exit ?_; simp [RK_seq, RK_seq_ret, RK_seq_exit, RK_blk, RK_blk_ret, RK_blk_exit, RK_loop, RK_loop_ret, RK_loop_exit, RK_done])
    | (refine ⟨?_, by omega⟩)
    | (refine ⟨fun hc => ?_, fun hc => ?_⟩ <;> (try (exfalso; omega)))
    | (intro hc <;> (try (exfalso; omega)))
    | (refine CallV.fun_ (hrf) (by first | rfl | fail) (by first | assumption | (simp; done) | fail) (by first | (simp; done) | (simp; rfl) | fail) (by first | (simp; done) | fail) ?_ <;> (try simp))
    | (refine CallP.fun_ (hrf) (by first | rfl | fail) (by first | assumption | (simp; done) | fail) (by first | (simp; done) | (simp; rfl) | fail) (by first | (simp; done) | fail) (fun d hd => ?_); subst hd; (try simp))
    | (refine CallV.fun_ (hdf) (by first | rfl | fail) (by first | assumption | (simp; done) | fail) (by first | (simp; done) | (simp; rfl) | fail) (by first | (simp; done) | fail) ?_ <;> (try simp))
    | (refine CallP.fun_ (hdf) (by first | rfl | fail) (by first | assumption | (simp; done) | fail) (by first | (simp; done) | (simp; rfl) | fail) (by first | (simp; done) | fail) (fun d hd => ?_); subst hd; (try simp)))
    refine V_wk _ (Wk.own 8 3 1 (by decide) rfl) ?_
    simp [St.own]
    refine V_loopO (α := { k : Nat // k ≤ l.length }) [0, 7] (fun k => [(8, .vec 0 k.1), (9, .u (.int .i64 k.1))]) (fun k => [(0, .vec 3 1 (intR ((dl.map fun j => l[j.toNat]?.getD 0).take k.1)))]) 1 (fun k => l.length - k.1) ⟨0, by omega⟩ ?_ ?_
    · exact (Wk.cut rfl (by simp [hn]) (by simp [wkO, St.lp, getK_cons, getK, Ob.under, D.under, under_rowsD, under_entD, intR]) (by simp [wkU, St.lp, keepE, getK_cons, getK, D.under, intR]) (by simp [wkE, St.lp, keepE, getK_cons, getK, intR] <;> (try (intros; simp_all; done)) <;> (try (intros; omega)) <;> (try grind)))
    rintro ⟨q, hq⟩
    simp [St.lp, St.only, keepE, getK_cons, getK]
    generalize hA : (dl.map fun j => l[j.toNat]?.getD 0) = A
    have hAl : A.length = l.length := by rw [← hA]; simp [hDl]
    rcases hx : dl[q]? with _ | z
    · have hge : dl.length ≤ q := by simpa using hx
      obtain rfl : q = l.length := by omega
      have htk : A.take l.length = A := List.take_of_length_le (by omega)
      repeat' (first
    | (refine H_cons ?_; simp [hDl])
    | (refine HD2_val rfl ?_; simp [hDl])
    | (refine HD_cons ?_; simp [hDl])
    | (refine HD2_chg rfl ?_; simp [hDl])
    | (refine H_nil ?_; simp [hDl])
    | (refine ⟨by omega, ?_⟩)
    | (refine V_sseq ?_; simp [hDl])
    | (refine V_scond ?_; simp [hDl])
    | (refine HD2_nil (hC _ (by kernel_rfl)) (hk _ ?_); clear hC hk C k; simp only [RK_seq, RK_seq_ret, RK_seq_exit, RK_blk, RK_blk_ret, RK_blk_exit, RK_loop, RK_loop_ret, RK_loop_exit, RK_done])
    | (refine HD_nil ?_)
    | (refine hk _ ?_; clear hk k; simp only [RK_seq, RK_seq_ret, RK_seq_exit, RK_blk, RK_blk_ret, RK_blk_exit, RK_loop, RK_loop_ret, RK_loop_exit, RK_done])
    | (refine V_drawV rfl (by kernel_rfl) (by kernel_rfl) fun k hk => ?_; simp [hDl])
    | (refine V_drawN rfl (by kernel_rfl) (by kernel_rfl) (by simp [hn]) fun C k hC hk => ?_; simp [hDl])
    | (refine HD3_val rfl ?_; simp [hDl])
    | (refine HD3_put ?_; simp [hDl])
    | (refine HD3_chg rfl rfl ?_; simp [hDl])
    | (refine HD3_nil (hC _ _ (by kernel_rfl) (by kernel_rfl)) (hk _ ?_); clear hC hk C k; simp only [RK_seq, RK_seq_ret, RK_seq_exit, RK_blk, RK_blk_ret, RK_blk_exit, RK_loop, RK_loop_ret, RK_loop_exit, RK_done]; simp [St.ins, insL, putE, getK_setOb, getK_cons])
    | (refine V_drawE rfl (by kernel_rfl) (by kernel_rfl) (by simp [hn]) fun C k hC hk => ?_; simp [hDl])
    | (refine HD_guardU rfl (by simp [hDl]) ?_; simp [hDl])
    | (refine HD_guard rfl (by simp [hDl]) (fun hc => ?_) (fun hc => ?_) <;> (try simp [hDl] at hc) <;> (try (exfalso; omega)) <;> (try simp [hDl]))
    | (refine HD2_guardU rfl (by simp [hDl]) ?_; simp [hDl])
    | (refine HD2_guard rfl (by simp [hDl]) (fun hc => ?_) (fun hc => ?_) <;> (try simp [hDl] at hc) <;> (try (exfalso; omega)) <;> (try simp [hDl]))
    | (refine V_sblock ?_; simp [hDl])
    | (refine V_sregion ?_; simp [hDl])
    | (refine V_ret ?_; simp only [RK_seq, RK_seq_ret, RK_seq_exit, RK_blk, RK_blk_ret, RK_blk_exit, RK_loop, RK_loop_ret, RK_loop_exit, RK_done])
    | (refine V_skip ?_; simp only [RK_seq, RK_seq_ret, RK_seq_exit, RK_blk, RK_blk_ret, RK_blk_exit, RK_loop, RK_loop_ret, RK_loop_exit, RK_done])
    | (refine V_exit ?_; simp [RK_seq, RK_seq_ret, RK_seq_exit, RK_blk, RK_blk_ret, RK_blk_exit, RK_loop, RK_loop_ret, RK_loop_exit, RK_done])
    | (refine ⟨?_, by omega⟩)
    | (refine ⟨fun hc => ?_, fun hc => ?_⟩ <;> (try (exfalso; omega)))
    | (intro hc <;> (try (exfalso; omega))))
      (refine EndW.frzN 1 ?_; simp [frzN, frz1, frz_env, frz_obs, St.frz, St.frzS, frzS, fv, fzVec, fzMap, fzBox, frzObS, frz_entD, frz_rowsD, del, frz, frzOb, intR_all, intR_len, intR_take, htk, hDl, hAl])
      refine EndW.norm (EndW.here ?_)
      (refine EndOK.val (.inr rfl) ?_; simp [resD, oneOrTup, pureD, Try.results13, frz_obs, frz_env, norm_obs, norm_env, frz, frzOb, frzS, fv, fzVec, fzMap, fzBox, frzObS, frz_entD, frz_rowsD, normD, normU, norm1, normOb, intR_all, intR_len, intR_take, htk, hDl, hAl])
      try simp [← hA]
    · obtain ⟨Z, rfl, hZ⟩ := hDr q z hx
      have hlt : q < l.length := by have := (List.getElem?_eq_some_iff.1 hx).1; omega
      obtain ⟨y, hy⟩ : ∃ y, l[Z]? = some y := ⟨_, List.getElem?_eq_getElem hZ⟩
      have h1 : A[q]? = some y := by simp [← hA, hx, hy]
      have hap : intR (A.take q) ++ [[D.u (.int .i64 y)]] = intR (A.take (q + 1)) := by rw [take_snoc h1]; simp [intR]
      have hlr : lenR 1 (intR (A.take q)) := by simp [intR]
      have hlen : (A.take q).length = q := by simp; omega
      have hlen2 : (A.take (q + 1)).length = q + 1 := by simp; omega
      have hdq : ∀ h : q < dl.length, dl[q]'h = (Z : Int) := fun h => (List.getElem?_eq_some_iff.1 hx).2
      repeat' (first
    | (refine H_cons ?_; simp [hDl, hdq, hy, hlt, intR_len, hlen, hap, hlr])
    | (refine HD2_val rfl ?_; simp [hDl, hdq, hy, hlt, intR_len, hlen, hap, hlr])
    | (refine HD_cons ?_; simp [hDl, hdq, hy, hlt, intR_len, hlen, hap, hlr])
    | (refine HD2_chg rfl ?_; simp [hDl, hdq, hy, hlt, intR_len, hlen, hap, hlr])
    | (refine H_nil ?_; simp [hDl, hdq, hy, hlt, intR_len, hlen, hap, hlr])
    | (refine ⟨by omega, ?_⟩)
    | (refine V_sseq ?_; simp [hDl, hdq, hy, hlt, intR_len, hlen, hap, hlr])
    | (refine V_scond ?_; simp [hDl, hdq, hy, hlt, intR_len, hlen, hap, hlr])
    | (refine HD2_nil (hC _ (by kernel_rfl)) (hk _ ?_); clear hC hk C k; simp only [RK_seq, RK_seq_ret, RK_seq_exit, RK_blk, RK_blk_ret, RK_blk_exit, RK_loop, RK_loop_ret, RK_loop_exit, RK_done])
    | (refine HD_nil ?_)
    | (refine hk _ ?_; clear hk k; simp only [RK_seq, RK_seq_ret, RK_seq_exit, RK_blk, RK_blk_ret, RK_blk_exit, RK_loop, RK_loop_ret, RK_loop_exit, RK_done])
    | (refine V_drawV rfl (by kernel_rfl) (by kernel_rfl) fun k hk => ?_; simp [hDl, hdq, hy, hlt, intR_len, hlen, hap, hlr])
    | (refine V_drawN rfl (by kernel_rfl) (by kernel_rfl) (by simp [hn]) fun C k hC hk => ?_; simp [hDl, hdq, hy, hlt, intR_len, hlen, hap, hlr])
    | (refine HD3_val rfl ?_; simp [hDl, hdq, hy, hlt, intR_len, hlen, hap, hlr])
    | (refine HD3_put ?_; simp [hDl, hdq, hy, hlt, intR_len, hlen, hap, hlr])
    | (refine HD3_chg rfl rfl ?_; simp [hDl, hdq, hy, hlt, intR_len, hlen, hap, hlr])
    | (refine HD3_nil (hC _ _ (by kernel_rfl) (by kernel_rfl)) (hk _ ?_); clear hC hk C k; simp only [RK_seq, RK_seq_ret, RK_seq_exit, RK_blk, RK_blk_ret, RK_blk_exit, RK_loop, RK_loop_ret, RK_loop_exit, RK_done]; simp [St.ins, insL, putE, getK_setOb, getK_cons])
    | (refine V_drawE rfl (by kernel_rfl) (by kernel_rfl) (by simp [hn]) fun C k hC hk => ?_; simp [hDl, hdq, hy, hlt, intR_len, hlen, hap, hlr])
    | (refine HD_guardU rfl (by simp [hDl, hdq, hy, hlt, intR_len, hlen, hap, hlr]) ?_; simp [hDl, hdq, hy, hlt, intR_len, hlen, hap, hlr])
    | (refine HD_guard rfl (by simp [hDl, hdq, hy, hlt, intR_len, hlen, hap, hlr]) (fun hc => ?_) (fun hc => ?_) <;> (try simp [hDl, hdq, hy, hlt, intR_len, hlen, hap, hlr] at hc) <;> (try (exfalso; omega)) <;> (try simp [hDl, hdq, hy, hlt, intR_len, hlen, hap, hlr]))
    | (refine HD2_guardU rfl (by simp [hDl, hdq, hy, hlt, intR_len, hlen, hap, hlr]) ?_; simp [hDl, hdq, hy, hlt, intR_len, hlen, hap, hlr])
    | (refine HD2_guard rfl (by simp [hDl, hdq, hy, hlt, intR_len, hlen, hap, hlr]) (fun hc => ?_) (fun hc => ?_) <;> (try simp [hDl, hdq, hy, hlt, intR_len, hlen, hap, hlr] at hc) <;> (try (exfalso; omega)) <;> (try simp [hDl, hdq, hy, hlt, intR_len, hlen, hap, hlr]))
    | (refine V_sblock ?_; simp [hDl, hdq, hy, hlt, intR_len, hlen, hap, hlr])
    | (refine V_sregion ?_; simp [hDl, hdq, hy, hlt, intR_len, hlen, hap, hlr])
    | (refine V_ret ?_; simp only [RK_seq, RK_seq_ret, RK_seq_exit, RK_blk, RK_blk_ret, RK_blk_exit, RK_loop, RK_loop_ret, RK_loop_exit, RK_done])
    | (refine V_skip ?_; simp only [RK_seq, RK_seq_ret, RK_seq_exit, RK_blk, RK_blk_ret, RK_blk_exit, RK_loop, RK_loop_ret, RK_loop_exit, RK_done])
    | (refine V_exit ?_; simp [RK_seq, RK_seq_ret, RK_seq_exit, RK_blk, RK_blk_ret, RK_blk_exit, RK_loop, RK_loop_ret, RK_loop_exit, RK_done])
    | (refine ⟨?_, by omega⟩)
    | (refine ⟨fun hc => ?_, fun hc => ?_⟩ <;> (try (exfalso; omega)))
    | (intro hc <;> (try (exfalso; omega))))
      refine LoopW.next ⟨q + 1, by omega⟩ (by simp; omega) ?_
      try simp only [hA]
      exact (Wk.ren ((fun i => if i = 0 then 2 else i)) rfl (by simp [hn]) (by simp [wkER, St.lp, keepE, getK_cons, getK, getK_del, getK_setOb, D.under, D.le, D.ren, pure_intR, under_intR, hlen2, hA] <;> (try (intros; simp_all; done)) <;> (try omega)) (by simp [wkR, St.lp, getK_cons, getK, getK_del, getK_setOb, obR, leU, pureRow, pureRows, Ob.under, D.under, D.le, D.ren, pure_intR, under_intR, hlen2, hA] <;> (try (intros; simp_all; done)) <;> (try omega)) (by simp))
  · have ho : orderS l kind seed = l := by simp [orderS, hv, hk1]
    rw [ho]
    (refine Fun.of_bodyW Try.func13 rfl (by simp) fun Γ hn => ?_); simp only [entry, List.zipIdx_cons, List.zipIdx_nil, List.map_cons, List.map_nil, Nat.zero_add, Try.ntmps13]
    repeat' (first
    | (refine H_cons ?_; simp [hk1])
    | (refine HD2_val rfl ?_; simp [hk1])
    | (refine HD_cons ?_; simp [hk1])
    | (refine HD2_chg rfl ?_; simp [hk1])
    | (refine H_nil ?_; simp [hk1])
    | (refine ⟨by omega, ?_⟩)
    | (refine V_sseq ?_; simp [hk1])
    | (refine V_scond ?_; simp [hk1])
    | (refine HD2_nil (hC _ (by kernel_rfl)) (hk _ ?_); clear hC hk C k; simp only [RK_seq, RK_seq_ret, RK_seq_exit, RK_blk, RK_blk_ret, RK_blk_exit, RK_loop, RK_loop_ret, RK_loop_exit, RK_done])
    | (refine HD_nil ?_)
    | (refine hk _ ?_; clear hk k; simp only [RK_seq, RK_seq_ret, RK_seq_exit, RK_blk, RK_blk_ret, RK_blk_exit, RK_loop, RK_loop_ret, RK_loop_exit, RK_done])
    | (refine V_drawV rfl (by kernel_rfl) (by kernel_rfl) fun k hk => ?_; simp [hk1])
    | (refine V_drawN rfl (by kernel_rfl) (by kernel_rfl) (by simp [hn]) fun C k hC hk => ?_; simp [hk1])
    | (refine HD3_val rfl ?_; simp [hk1])
    | (refine HD3_put ?_; simp [hk1])
    | (refine HD3_chg rfl rfl ?_; simp [hk1])
    | (refine HD3_nil (hC _ _ (by kernel_rfl) (by kernel_rfl)) (hk _ ?_); clear hC hk C k; simp only [RK_seq, RK_seq_ret, RK_seq_exit, RK_blk, RK_blk_ret, RK_blk_exit, RK_loop, RK_loop_ret, RK_loop_exit, RK_done]; simp [St.ins, insL, putE, getK_setOb, getK_cons])
    | (refine V_drawE rfl (by kernel_rfl) (by kernel_rfl) (by simp [hn]) fun C k hC hk => ?_; simp [hk1])
    | (refine HD_guardU rfl (by simp [hk1]) ?_; simp [hk1])
    | (refine HD_guard rfl (by simp [hk1]) (fun hc => ?_) (fun hc => ?_) <;> (try simp [hk1] at hc) <;> (try (exfalso; omega)) <;> (try simp [hk1]))
    | (refine HD2_guardU rfl (by simp [hk1]) ?_; simp [hk1])
    | (refine HD2_guard rfl (by simp [hk1]) (fun hc => ?_) (fun hc => ?_) <;> (try simp [hk1] at hc) <;> (try (exfalso; omega)) <;> (try simp [hk1]))
    | (refine V_sblock ?_; simp [hk1])
    | (refine V_sregion ?_; simp [hk1])
    | (refine V_ret ?_; simp only [RK_seq, RK_seq_ret, RK_seq_exit, RK_blk, RK_blk_ret, RK_blk_exit, RK_loop, RK_loop_ret, RK_loop_exit, RK_done])
    | (refine V_skip ?_; simp only [RK_seq, RK_seq_ret, RK_seq_exit, RK_blk, RK_blk_ret, RK_blk_exit, RK_loop, RK_loop_ret, RK_loop_exit, RK_done])
    | (refine V_exit ?_; simp [RK_seq, RK_seq_ret, RK_seq_exit, RK_blk, RK_blk_ret, RK_blk_exit, RK_loop, RK_loop_ret, RK_loop_exit, RK_done])
    | (refine ⟨?_, by omega⟩)
    | (refine ⟨fun hc => ?_, fun hc => ?_⟩ <;> (try (exfalso; omega)))
    | (intro hc <;> (try (exfalso; omega)))
    | (refine CallV.fun_ (hrf) (by first | rfl | fail) (by first | assumption | (simp; done) | fail) (by first | (simp [hk1]; done) | (simp [hk1]; rfl) | fail) (by first | (simp; done) | fail) ?_ <;> (try simp [hk1]))
    | (refine CallP.fun_ (hrf) (by first | rfl | fail) (by first | assumption | (simp; done) | fail) (by first | (simp [hk1]; done) | (simp [hk1]; rfl) | fail) (by first | (simp; done) | fail) (fun d hd => ?_); subst hd; (try simp [hk1])))
    (refine EndW.frzN 1 ?_; simp [frzN, frz1, frz_env, frz_obs, St.frz, St.frzS, frzS, fv, fzVec, fzMap, fzBox, frzObS, frz_entD, frz_rowsD, del, frz, frzOb, intR_all, intR_len, intR_take])
    refine EndW.norm (EndW.here ?_)
    (refine EndOK.val (.inr rfl) ?_; simp [resD, oneOrTup, pureD, Try.results13, frz_obs, frz_env, norm_obs, norm_env, frz, frzOb, frzS, fv, fzVec, fzMap, fzBox, frzObS, frz_entD, frz_rowsD, normD, normU, norm1, normOb, intR_all, intR_len, intR_take])
theorem spread_fun (l : List Int) (hl : l.length ≤ 1000000) (hne : l ≠ []) (hr : ∀ x ∈ l, 0 ≤ x ∧ x ≤ 100000) : Fun Try.prog 18 [.u (ints l)] (· = .u (.int .i64 (maxS l - minS l))) := by
  have hp : 0 < l.length := List.length_pos_iff.2 hne
  obtain ⟨a0, ha0⟩ : ∃ a, l[0]? = some a := ⟨_, List.getElem?_eq_getElem hp⟩
  have hm1 : minS (l.take 1) = a0 ∧ maxS (l.take 1) = a0 := by
    cases l with
    | nil => exact absurd rfl hne
    | cons b l => simp at ha0; simp [minS, maxS, ha0]
  (refine Fun.of_body Try.func18 rfl (by simp) fun Γ hn => ?_); simp only [entry, List.zipIdx_cons, List.zipIdx_nil, List.map_cons, List.map_nil, Nat.zero_add, Try.ntmps18]
  repeat' (first
    | (refine H_cons ?_; simp [ha0, hne])
    | (refine HD2_val rfl ?_; simp [ha0, hne])
    | (refine HD_cons ?_; simp [ha0, hne])
    | (refine HD2_chg rfl ?_; simp [ha0, hne])
    | (refine H_nil ?_; simp [ha0, hne])
    | (refine ⟨by omega, ?_⟩)
    | (refine V_sseq ?_; simp [ha0, hne])
    | (refine V_scond ?_; simp [ha0, hne])
    | (refine HD2_nil (hC _ (by kernel_rfl)) (hk _ ?_); clear hC hk C k; simp only [RK_seq, RK_seq_ret, RK_seq_exit, RK_blk, RK_blk_ret, RK_blk_exit, RK_loop, RK_loop_ret, RK_loop_exit, RK_done])
    | (refine HD_nil ?_)
    | (refine hk _ ?_; clear hk k; simp only [RK_seq, RK_seq_ret, RK_seq_exit, RK_blk, RK_blk_ret, RK_blk_exit, RK_loop, RK_loop_ret, RK_loop_exit, RK_done])
    | (refine V_drawV rfl (by kernel_rfl) (by kernel_rfl) fun k hk => ?_; simp [ha0, hne])
    | (refine V_drawN rfl (by kernel_rfl) (by kernel_rfl) (by simp [hn]) fun C k hC hk => ?_; simp [ha0, hne])
    | (refine HD3_val rfl ?_; simp [ha0, hne])
    | (refine HD3_put ?_; simp [ha0, hne])
    | (refine HD3_chg rfl rfl ?_; simp [ha0, hne])
    | (refine HD3_nil (hC _ _ (by kernel_rfl) (by kernel_rfl)) (hk _ ?_); clear hC hk C k; simp only [RK_seq, RK_seq_ret, RK_seq_exit, RK_blk, RK_blk_ret, RK_blk_exit, RK_loop, RK_loop_ret, RK_loop_exit, RK_done]; simp [St.ins, insL, putE, getK_setOb, getK_cons])
    | (refine V_drawE rfl (by kernel_rfl) (by kernel_rfl) (by simp [hn]) fun C k hC hk => ?_; simp [ha0, hne])
    | (refine HD_guardU rfl (by simp [ha0, hne]) ?_; simp [ha0, hne])
    | (refine HD_guard rfl (by simp [ha0, hne]) (fun hc => ?_) (fun hc => ?_) <;> (try simp [ha0, hne] at hc) <;> (try (exfalso; omega)) <;> (try simp [ha0, hne]))
    | (refine HD2_guardU rfl (by simp [ha0, hne]) ?_; simp [ha0, hne])
    | (refine HD2_guard rfl (by simp [ha0, hne]) (fun hc => ?_) (fun hc => ?_) <;> (try simp [ha0, hne] at hc) <;> (try (exfalso; omega)) <;> (try simp [ha0, hne]))
    | (refine V_sblock ?_; simp [ha0, hne])
    | (refine V_sregion ?_; simp [ha0, hne])
    | (refine V_ret ?_; simp only [RK_seq, RK_seq_ret, RK_seq_exit, RK_blk, RK_blk_ret, RK_blk_exit, RK_loop, RK_loop_ret, RK_loop_exit, RK_done])
    | (refine V_skip ?_; simp only [RK_seq, RK_seq_ret, RK_seq_exit, RK_blk, RK_blk_ret, RK_blk_exit, RK_loop, RK_loop_ret, RK_loop_exit, RK_done])
    | (refine V_exit ?_; simp [RK_seq, RK_seq_ret, RK_seq_exit, RK_blk, RK_blk_ret, RK_blk_exit, RK_loop, RK_loop_ret, RK_loop_exit, RK_done])
    | (refine ⟨?_, by omega⟩)
    | (refine ⟨fun hc => ?_, fun hc => ?_⟩ <;> (try (exfalso; omega)))
    | (intro hc <;> (try (exfalso; omega))))
  refine V_loopF (α := { i : Nat // i ≤ l.length }) [0] (fun i => [(3, .u (.int .i64 (minS (l.take (max i.1 1))))), (4, .u (.int .i64 (maxS (l.take (max i.1 1))))), (5, .u (.int .i64 i.1))]) (fun i => l.length - i.1) ⟨0, by omega⟩ ?_ ?_
  · exact (Wk.cut rfl (by simp [hn]) (by simp [wkO, St.lp, getK_cons, getK, Ob.under, D.under, under_rowsD, under_entD, hm1.1, hm1.2]) (by simp [wkU, St.lp, keepE, getK_cons, getK, D.under, hm1.1, hm1.2]) (by simp [wkE, St.lp, keepE, getK_cons, getK, hm1.1, hm1.2] <;> (try (intros; simp_all; done)) <;> (try (intros; omega)) <;> (try grind)))
  rintro ⟨i, hi⟩
  simp [St.lp, St.only, keepE, getK_cons, getK]
  have hr1 := hr _ (minS_mem hne)
  have hr2 := hr _ (maxS_mem hne)
  rcases hx : l[i]? with _ | a
  · have hge : l.length ≤ i := by simpa using hx
    obtain rfl : i = l.length := by omega
    have htk : l.take (max l.length 1) = l := List.take_of_length_le (by omega)
    rw [htk]
    repeat' (first
    | (refine H_cons ?_; simp [hx])
    | (refine HD2_val rfl ?_; simp [hx])
    | (refine HD_cons ?_; simp [hx])
    | (refine HD2_chg rfl ?_; simp [hx])
    | (refine H_nil ?_; simp [hx])
    | (refine ⟨by omega, ?_⟩)
    | (refine V_sseq ?_; simp [hx])
    | (refine V_scond ?_; simp [hx])
    | (refine HD2_nil (hC _ (by kernel_rfl)) (hk _ ?_); clear hC hk C k; simp only [RK_seq, RK_seq_ret, RK_seq_exit, RK_blk, RK_blk_ret, RK_blk_exit, RK_loop, RK_loop_ret, RK_loop_exit, RK_done])
    | (refine HD_nil ?_)
    | (refine hk _ ?_; clear hk k; simp only [RK_seq, RK_seq_ret, RK_seq_exit, RK_blk, RK_blk_ret, RK_blk_exit, RK_loop, RK_loop_ret, RK_loop_exit, RK_done])
    | (refine V_drawV rfl (by kernel_rfl) (by kernel_rfl) fun k hk => ?_; simp [hx])
    | (refine V_drawN rfl (by kernel_rfl) (by kernel_rfl) (by simp [hn]) fun C k hC hk => ?_; simp [hx])
    | (refine HD3_val rfl ?_; simp [hx])
    | (refine HD3_put ?_; simp [hx])
    | (refine HD3_chg rfl rfl ?_; simp [hx])
    | (refine HD3_nil (hC _ _ (by kernel_rfl) (by kernel_rfl)) (hk _ ?_); clear hC hk C k; simp only [RK_seq, RK_seq_ret, RK_seq_exit, RK_blk, RK_blk_ret, RK_blk_exit, RK_loop, RK_loop_ret, RK_loop_exit, RK_done]; simp [St.ins, insL, putE, getK_setOb, getK_cons])
    | (refine V_drawE rfl (by kernel_rfl) (by kernel_rfl) (by simp [hn]) fun C k hC hk => ?_; simp [hx])
    | (refine HD_guardU rfl (by simp [hx]) ?_; simp [hx])
    | (refine HD_guard rfl (by simp [hx]) (fun hc => ?_) (fun hc => ?_) <;> (try simp [hx] at hc) <;> (try (exfalso; omega)) <;> (try simp [hx]))
    | (refine HD2_guardU rfl (by simp [hx]) ?_; simp [hx])
    | (refine HD2_guard rfl (by simp [hx]) (fun hc => ?_) (fun hc => ?_) <;> (try simp [hx] at hc) <;> (try (exfalso; omega)) <;> (try simp [hx]))
    | (refine V_sblock ?_; simp [hx])
    | (refine V_sregion ?_; simp [hx])
    | (refine V_ret ?_; simp only [RK_seq, RK_seq_ret, RK_seq_exit, RK_blk, RK_blk_ret, RK_blk_exit, RK_loop, RK_loop_ret, RK_loop_exit, RK_done])
    | (refine V_skip ?_; simp only [RK_seq, RK_seq_ret, RK_seq_exit, RK_blk, RK_blk_ret, RK_blk_exit, RK_loop, RK_loop_ret, RK_loop_exit, RK_done])
    | (refine V_exit ?_; simp [RK_seq, RK_seq_ret, RK_seq_exit, RK_blk, RK_blk_ret, RK_blk_exit, RK_loop, RK_loop_ret, RK_loop_exit, RK_done])
    | (refine ⟨?_, by omega⟩)
    | (refine ⟨fun hc => ?_, fun hc => ?_⟩ <;> (try (exfalso; omega)))
    | (intro hc <;> (try (exfalso; omega))))
    (refine EndOK.val (.inr rfl) ?_; simp [resD, oneOrTup, pureD, Try.results18])
  · have hlt : i < l.length := (List.getElem?_eq_some_iff.1 hx).1
    have hsn : minS (l.take (max (i + 1) 1)) = min (minS (l.take (max i 1))) a ∧ maxS (l.take (max (i + 1) 1)) = max (maxS (l.take (max i 1))) a := by
      rcases Nat.eq_zero_or_pos i with rfl | h0
      · rw [ha0] at hx
        cases hx
        simp [hm1]
      · rw [show max (i + 1) 1 = i + 1 by omega, show max i 1 = i by omega, take_snoc hx, minS_snoc, maxS_snoc]
        · exact ⟨rfl, rfl⟩
        all_goals
          intro h
          have h1 : (l.take i).length = i := by rw [List.length_take]; omega
          rw [h] at h1
          simp at h1
          omega
    repeat' (first
    | (refine H_cons ?_; simp [hx])
    | (refine HD2_val rfl ?_; simp [hx])
    | (refine HD_cons ?_; simp [hx])
    | (refine HD2_chg rfl ?_; simp [hx])
    | (refine H_nil ?_; simp [hx])
    | (refine ⟨by omega, ?_⟩)
    | (refine V_sseq ?_; simp [hx])
    | (refine V_scond ?_; simp [hx])
    | (refine HD2_nil (hC _ (by kernel_rfl)) (hk _ ?_); clear hC hk C k; simp only [RK_seq, RK_seq_ret, RK_seq_exit, RK_blk, RK_blk_ret, RK_blk_exit, RK_loop, RK_loop_ret, RK_loop_exit, RK_done])
    | (refine HD_nil ?_)
    | (refine hk _ ?_; clear hk k; simp only [RK_seq, RK_seq_ret, RK_seq_exit, RK_blk, RK_blk_ret, RK_blk_exit, RK_loop, RK_loop_ret, RK_loop_exit, RK_done])
    | (refine V_drawV rfl (by kernel_rfl) (by kernel_rfl) fun k hk => ?_; simp [hx])
    | (refine V_drawN rfl (by kernel_rfl) (by kernel_rfl) (by simp [hn]) fun C k hC hk => ?_; simp [hx])
    | (refine HD3_val rfl ?_; simp [hx])
    | (refine HD3_put ?_; simp [hx])
    | (refine HD3_chg rfl rfl ?_; simp [hx])
    | (refine HD3_nil (hC _ _ (by kernel_rfl) (by kernel_rfl)) (hk _ ?_); clear hC hk C k; simp only [RK_seq, RK_seq_ret, RK_seq_exit, RK_blk, RK_blk_ret, RK_blk_exit, RK_loop, RK_loop_ret, RK_loop_exit, RK_done]; simp [St.ins, insL, putE, getK_setOb, getK_cons])
    | (refine V_drawE rfl (by kernel_rfl) (by kernel_rfl) (by simp [hn]) fun C k hC hk => ?_; simp [hx])
    | (refine HD_guardU rfl (by simp [hx]) ?_; simp [hx])
    | (refine HD_guard rfl (by simp [hx]) (fun hc => ?_) (fun hc => ?_) <;> (try simp [hx] at hc) <;> (try (exfalso; omega)) <;> (try simp [hx]))
    | (refine HD2_guardU rfl (by simp [hx]) ?_; simp [hx])
    | (refine HD2_guard rfl (by simp [hx]) (fun hc => ?_) (fun hc => ?_) <;> (try simp [hx] at hc) <;> (try (exfalso; omega)) <;> (try simp [hx]))
    | (refine V_sblock ?_; simp [hx])
    | (refine V_sregion ?_; simp [hx])
    | (refine V_ret ?_; simp only [RK_seq, RK_seq_ret, RK_seq_exit, RK_blk, RK_blk_ret, RK_blk_exit, RK_loop, RK_loop_ret, RK_loop_exit, RK_done])
    | (refine V_skip ?_; simp only [RK_seq, RK_seq_ret, RK_seq_exit, RK_blk, RK_blk_ret, RK_blk_exit, RK_loop, RK_loop_ret, RK_loop_exit, RK_done])
    | (refine V_exit ?_; simp [RK_seq, RK_seq_ret, RK_seq_exit, RK_blk, RK_blk_ret, RK_blk_exit, RK_loop, RK_loop_ret, RK_loop_exit, RK_done])
    | (refine ⟨?_, by omega⟩)
    | (refine ⟨fun hc => ?_, fun hc => ?_⟩ <;> (try (exfalso; omega)))
    | (intro hc <;> (try (exfalso; omega))))
    refine LoopW.next ⟨i + 1, by omega⟩ (by simp; omega) ?_
    exact (Wk.cut rfl (by simp [hn]) (by simp [wkO, St.lp, getK_cons, getK, Ob.under, D.under, under_rowsD, under_entD, hsn.1, hsn.2]) (by simp [wkU, St.lp, keepE, getK_cons, getK, D.under, hsn.1, hsn.2]) (by simp [wkE, St.lp, keepE, getK_cons, getK, hsn.1, hsn.2] <;> (try (intros; simp_all; done)) <;> (try (intros; omega)) <;> (try grind)))
end Go.Proofs.Ytmebfcehkfaiaaa
