/- Layer 23: Order: the walk. -/
import Derived.Test.YtmebfcehkfaiaaaTh
set_option linter.all false
set_option maxRecDepth 100000
set_option maxHeartbeats 8000000
set_option linter.all false
namespace Go.Proofs.Ytmebfcehkfaiaaa
open Go Go.VL
attribute [local simp] hcons hstep evPure opd uOf putOK St.put St.at getK binD binI binS binB nilD aggD eqUs cmpK lookD lookR rangeD nextD entryD keyD valU keyU lookK mkV entD_nil lookK_entD updK_entD1 updK_entD2 updK_entD3 allUE allUE_entD makeMapD mapUpdD mapEff updK valM Key.kk shiftI arith unD convD pickD loadD cellsAt fieldAddrD fieldD indexAddrD indexD sliceD cutD lenD minmaxD nilCheckD buildD fillD cellsD isOne ones setAll mkAgg allU allocD boxD storeD St.add buildSliceD appendD rowsOf makeD setOb getK_setOb getK_del getK_cons stripL strip guardTmp entry chunks zcells valD argsV argsW argW argU1 argU0 argsU0 argsU1 calleeOf scalarD scalarU delAll effD St.effS RK_seq RK_seq_ret RK_seq_exit RK_blk RK_blk_ret RK_blk_exit RK_loop RK_loop_ret RK_loop_exit RK_done vs_seq vs_block vs_skip vs_label vs_exit vs_ret vs_cond vs_region vs_loop vs_draw vs_range vs_scope applyW mkD rdIds lentIds callOf calleeOf freeOp D.ids Op.operands Call.operands isEffOp IntKind.bits allU2 allU2_append List.take_of_length_le List.range_succ
attribute [local irreducible] V G H HD HD2 RunK Eff CallP CallV EndOK Fun Ret FinOK LoopI LoopW EndW
theorem clone_ret2 (l : List Int) (nx : Nat) (hl : l.length ≤ 1000000) : Ret Try.prog 22 [.u (ints l)] [] nx
    (fun d o n' => ∃ j, nx ≤ j ∧ j < n' ∧ d = .vec j l.length ∧ o = [(j, .vec 3 1 (intR l))]) := by
  cases l with
  | nil =>
    (refine Ret.of_bodyW Try.func22 rfl (by simp) fun Γ hn => ?_); simp only [entry, List.zipIdx_cons, List.zipIdx_nil, List.map_cons, List.map_nil, Nat.zero_add, Try.ntmps22]
    simp only [ints, List.map_nil]
    refine V_nilsplit (x := 0) rfl ?_ (fun a cp => ?_)
    · repeat' (first
    | (refine H_cons ?_; simp)
    | (refine HD2_val rfl ?_; simp)
    | (refine HD_cons ?_; simp)
    | (refine HD2_chg rfl ?_; simp)
    | (refine H_nil ?_; simp)
    | (refine ⟨by omega, ?_⟩)
    | (refine V_sseq ?_; simp)
    | (refine V_scond ?_; simp)
    | (refine HD2_nil (hC _ (by kernel_rfl)) (hk _ ?_); clear hC hk C k; simp only [RK_seq, RK_seq_ret, RK_seq_exit, RK_blk, RK_blk_ret, RK_blk_exit, RK_loop, RK_loop_ret, RK_loop_exit, RK_done])
    | (refine HD_nil ?_)
    | (refine hk _ ?_; clear hk k; simp only [RK_seq, RK_seq_ret, RK_seq_exit, RK_blk, RK_blk_ret, RK_blk_exit, RK_loop, RK_loop_ret, RK_loop_exit, RK_done])
    | (refine V_drawV rfl (by kernel_rfl) (by kernel_rfl) fun k hk => ?_; simp)
    | (refine V_drawN rfl (by kernel_rfl) (by kernel_rfl) (by simp [hn]) fun C k hC hk => ?_; simp)
    | (refine HD3_val rfl ?_; simp)
    | (refine HD3_put ?_; simp)
    | (refine HD3_chg rfl rfl ?_; simp)
    | (refine HD3_nil (hC _ _ (by kernel_rfl) (by kernel_rfl)) (hk _ ?_); clear hC hk C k; simp only [RK_seq, RK_seq_ret, RK_seq_exit, RK_blk, RK_blk_ret, RK_blk_exit, RK_loop, RK_loop_ret, RK_loop_exit, RK_done]; simp [St.ins, insL, putE, getK_setOb, getK_cons])
    | (refine V_drawE rfl (by kernel_rfl) (by kernel_rfl) (by simp [hn]) fun C k hC hk => ?_; simp)
    | (refine HD_guardU rfl (by simp) ?_; simp)
    | (refine HD_guard rfl (by simp) (fun hc => ?_) (fun hc => ?_) <;> (try simp at hc) <;> (try (exfalso; omega)) <;> (try simp))
    | (refine HD2_guardU rfl (by simp) ?_; simp)
    | (refine HD2_guard rfl (by simp) (fun hc => ?_) (fun hc => ?_) <;> (try simp at hc) <;> (try (exfalso; omega)) <;> (try simp))
    | (refine V_sblock ?_; simp)
    | (refine V_sregion ?_; simp)
    | (refine V_ret ?_; simp only [RK_seq, RK_seq_ret, RK_seq_exit, RK_blk, RK_blk_ret, RK_blk_exit, RK_loop, RK_loop_ret, RK_loop_exit, RK_done])
    | (refine V_skip ?_; simp only [RK_seq, RK_seq_ret, RK_seq_exit, RK_blk, RK_blk_ret, RK_blk_exit, RK_loop, RK_loop_ret, RK_loop_exit, RK_done])
    | (refine V_exit ?_; simp [RK_seq, RK_seq_ret, RK_seq_exit, RK_blk, RK_blk_ret, RK_blk_exit, RK_loop, RK_loop_ret, RK_loop_exit, RK_done])
    | (refine ⟨?_, by omega⟩)
    | (refine ⟨fun hc => ?_, fun hc => ?_⟩ <;> (try (exfalso; omega)))
    | (intro hc <;> (try (exfalso; omega))))
      refine EndW.wk _ (Wk.own 2 3 1 (by omega) rfl) (EndW.here ?_)
      (first | (refine EndOK.fin (.inr rfl) ?_) | (refine EndOK.fin (.inl rfl) ?_)); simp [resD, oneOrTup, Try.results22]
      exact FinOK.here (by simp [St.own]) ⟨nx, by omega, by simp [St.own], by simp [St.own], by simp [St.own, intR]⟩
    · repeat' (first
    | (refine H_cons ?_; simp)
    | (refine HD2_val rfl ?_; simp)
    | (refine HD_cons ?_; simp)
    | (refine HD2_chg rfl ?_; simp)
    | (refine H_nil ?_; simp)
    | (refine ⟨by omega, ?_⟩)
    | (refine V_sseq ?_; simp)
    | (refine V_scond ?_; simp)
    | (refine HD2_nil (hC _ (by kernel_rfl)) (hk _ ?_); clear hC hk C k; simp only [RK_seq, RK_seq_ret, RK_seq_exit, RK_blk, RK_blk_ret, RK_blk_exit, RK_loop, RK_loop_ret, RK_loop_exit, RK_done])
    | (refine HD_nil ?_)
    | (refine hk _ ?_; clear hk k; simp only [RK_seq, RK_seq_ret, RK_seq_exit, RK_blk, RK_blk_ret, RK_blk_exit, RK_loop, RK_loop_ret, RK_loop_exit, RK_done])
    | (refine V_drawV rfl (by kernel_rfl) (by kernel_rfl) fun k hk => ?_; simp)
    | (refine V_drawN rfl (by kernel_rfl) (by kernel_rfl) (by simp [hn]) fun C k hC hk => ?_; simp)
    | (refine HD3_val rfl ?_; simp)
    | (refine HD3_put ?_; simp)
    | (refine HD3_chg rfl rfl ?_; simp)
    | (refine HD3_nil (hC _ _ (by kernel_rfl) (by kernel_rfl)) (hk _ ?_); clear hC hk C k; simp only [RK_seq, RK_seq_ret, RK_seq_exit, RK_blk, RK_blk_ret, RK_blk_exit, RK_loop, RK_loop_ret, RK_loop_exit, RK_done]; simp [St.ins, insL, putE, getK_setOb, getK_cons])
    | (refine V_drawE rfl (by kernel_rfl) (by kernel_rfl) (by simp [hn]) fun C k hC hk => ?_; simp)
    | (refine HD_guardU rfl (by simp) ?_; simp)
    | (refine HD_guard rfl (by simp) (fun hc => ?_) (fun hc => ?_) <;> (try simp at hc) <;> (try (exfalso; omega)) <;> (try simp))
    | (refine HD2_guardU rfl (by simp) ?_; simp)
    | (refine HD2_guard rfl (by simp) (fun hc => ?_) (fun hc => ?_) <;> (try simp at hc) <;> (try (exfalso; omega)) <;> (try simp))
    | (refine V_sblock ?_; simp)
    | (refine V_sregion ?_; simp)
    | (refine V_ret ?_; simp only [RK_seq, RK_seq_ret, RK_seq_exit, RK_blk, RK_blk_ret, RK_blk_exit, RK_loop, RK_loop_ret, RK_loop_exit, RK_done])
    | (refine V_skip ?_; simp only [RK_seq, RK_seq_ret, RK_seq_exit, RK_blk, RK_blk_ret, RK_blk_exit, RK_loop, RK_loop_ret, RK_loop_exit, RK_done])
    | (refine V_exit ?_; simp [RK_seq, RK_seq_ret, RK_seq_exit, RK_blk, RK_blk_ret, RK_blk_exit, RK_loop, RK_loop_ret, RK_loop_exit, RK_done])
    | (refine ⟨?_, by omega⟩)
    | (refine ⟨fun hc => ?_, fun hc => ?_⟩ <;> (try (exfalso; omega)))
    | (intro hc <;> (try (exfalso; omega))))
      refine EndW.here ?_
      (first | (refine EndOK.fin (.inr rfl) ?_) | (refine EndOK.fin (.inl rfl) ?_)); simp [resD, oneOrTup, Try.results22]
      exact FinOK.here (by simp; omega) ⟨nx + 1, by omega, by simp, by simp, by simp [intR, del]⟩
  | cons x l =>
    simp only [List.length_cons] at hl
    (refine Ret.of_bodyW Try.func22 rfl (by simp) fun Γ hn => ?_); simp only [entry, List.zipIdx_cons, List.zipIdx_nil, List.map_cons, List.map_nil, Nat.zero_add, Try.ntmps22]
    simp only [ints, List.map_cons]
    repeat' (first
    | (refine H_cons ?_; simp)
    | (refine HD2_val rfl ?_; simp)
    | (refine HD_cons ?_; simp)
    | (refine HD2_chg rfl ?_; simp)
    | (refine H_nil ?_; simp)
    | (refine ⟨by omega, ?_⟩)
    | (refine V_sseq ?_; simp)
    | (refine V_scond ?_; simp)
    | (refine HD2_nil (hC _ (by kernel_rfl)) (hk _ ?_); clear hC hk C k; simp only [RK_seq, RK_seq_ret, RK_seq_exit, RK_blk, RK_blk_ret, RK_blk_exit, RK_loop, RK_loop_ret, RK_loop_exit, RK_done])
    | (refine HD_nil ?_)
    | (refine hk _ ?_; clear hk k; simp only [RK_seq, RK_seq_ret, RK_seq_exit, RK_blk, RK_blk_ret, RK_blk_exit, RK_loop, RK_loop_ret, RK_loop_exit, RK_done])
    | (refine V_drawV rfl (by kernel_rfl) (by kernel_rfl) fun k hk => ?_; simp)
    | (refine V_drawN rfl (by kernel_rfl) (by kernel_rfl) (by simp [hn]) fun C k hC hk => ?_; simp)
    | (refine HD3_val rfl ?_; simp)
    | (refine HD3_put ?_; simp)
    | (refine HD3_chg rfl rfl ?_; simp)
    | (refine HD3_nil (hC _ _ (by kernel_rfl) (by kernel_rfl)) (hk _ ?_); clear hC hk C k; simp only [RK_seq, RK_seq_ret, RK_seq_exit, RK_blk, RK_blk_ret, RK_blk_exit, RK_loop, RK_loop_ret, RK_loop_exit, RK_done]; simp [St.ins, insL, putE, getK_setOb, getK_cons])
    | (refine V_drawE rfl (by kernel_rfl) (by kernel_rfl) (by simp [hn]) fun C k hC hk => ?_; simp)
    | (refine HD_guardU rfl (by simp) ?_; simp)
    | (refine HD_guard rfl (by simp) (fun hc => ?_) (fun hc => ?_) <;> (try simp at hc) <;> (try (exfalso; omega)) <;> (try simp))
    | (refine HD2_guardU rfl (by simp) ?_; simp)
    | (refine HD2_guard rfl (by simp) (fun hc => ?_) (fun hc => ?_) <;> (try simp at hc) <;> (try (exfalso; omega)) <;> (try simp))
    | (refine V_sblock ?_; simp)
    | (refine V_sregion ?_; simp)
    | (refine V_ret ?_; simp only [RK_seq, RK_seq_ret, RK_seq_exit, RK_blk, RK_blk_ret, RK_blk_exit, RK_loop, RK_loop_ret, RK_loop_exit, RK_done])
    | (refine V_skip ?_; simp only [RK_seq, RK_seq_ret, RK_seq_exit, RK_blk, RK_blk_ret, RK_blk_exit, RK_loop, RK_loop_ret, RK_loop_exit, RK_done])
    | (refine V_exit ?_; simp [RK_seq, RK_seq_ret, RK_seq_exit, RK_blk, RK_blk_ret, RK_blk_exit, RK_loop, RK_loop_ret, RK_loop_exit, RK_done])
    | (refine ⟨?_, by omega⟩)
    | (refine ⟨fun hc => ?_, fun hc => ?_⟩ <;> (try (exfalso; omega)))
    | (intro hc <;> (try (exfalso; omega))))
    refine EndW.here ?_
    (first | (refine EndOK.fin (.inr rfl) ?_) | (refine EndOK.fin (.inl rfl) ?_)); simp [resD, oneOrTup, Try.results22]
    exact FinOK.here (by simp; omega) ⟨nx + 1, by omega, by simp, by simp, by simp [intR, rowsD, del]⟩
theorem order_fun (l : List Int) (kind seed : Int) (hl : l.length ≤ 1000000) : Fun Try.prog 12 [.u (ints l), .u (.int .i64 kind), .u (.int .i64 seed)] (· = .u (ints (orderS l kind seed))) := by
  have hvf := valid_fun l kind (by omega)
  have hcl := clone_ret2 l 0 hl
  have hdf := draw_fun seed l.length l.length
  rcases (show validB l kind = false ∨ validB l kind = true by cases validB l kind <;> simp) with hv | hv
  · have ho : orderS l kind seed = [] := by simp [orderS, hv]
    rw [ho]
    rw [hv] at hvf
    (refine Fun.of_bodyW Try.func12 rfl (by simp) fun Γ hn => ?_); simp only [entry, List.zipIdx_cons, List.zipIdx_nil, List.map_cons, List.map_nil, Nat.zero_add, Try.ntmps12]
    repeat' (first
    | (refine H_cons ?_; simp)
    | (refine HD2_val rfl ?_; simp)
    | (refine HD_cons ?_; simp)
    | (refine HD2_chg rfl ?_; simp)
    | (refine H_nil ?_; simp)
    | (refine ⟨by omega, ?_⟩)
    | (refine V_sseq ?_; simp)
    | (refine V_scond ?_; simp)
    | (refine HD2_nil (hC _ (by kernel_rfl)) (hk _ ?_); clear hC hk C k; simp only [RK_seq, RK_seq_ret, RK_seq_exit, RK_blk, RK_blk_ret, RK_blk_exit, RK_loop, RK_loop_ret, RK_loop_exit, RK_done])
    | (refine HD_nil ?_)
    | (refine hk _ ?_; clear hk k; simp only [RK_seq, RK_seq_ret, RK_seq_exit, RK_blk, RK_blk_ret, RK_blk_exit, RK_loop, RK_loop_ret, RK_loop_exit, RK_done])
    | (refine V_drawV rfl (by kernel_rfl) (by kernel_rfl) fun k hk => ?_; simp)
    | (refine V_drawN rfl (by kernel_rfl) (by kernel_rfl) (by simp [hn]) fun C k hC hk => ?_; simp)
    | (refine HD3_val rfl ?_; simp)
    | (refine HD3_put ?_; simp)
    | (refine HD3_chg rfl rfl ?_; simp)
    | (refine HD3_nil (hC _ _ (by kernel_rfl) (by kernel_rfl)) (hk _ ?_); clear hC hk C k; simp only [RK_seq, RK_seq_ret, RK_seq_exit, RK_blk, RK_blk_ret, RK_blk_exit, RK_loop, RK_loop_ret, RK_loop_exit, RK_done]; simp [St.ins, insL, putE, getK_setOb, getK_cons])
    | (refine V_drawE rfl (by kernel_rfl) (by kernel_rfl) (by simp [hn]) fun C k hC hk => ?_; simp)
    | (refine HD_guardU rfl (by simp) ?_; simp)
    | (refine HD_guard rfl (by simp) (fun hc => ?_) (fun hc => ?_) <;> (try simp at hc) <;> (try (exfalso; omega)) <;> (try simp))
    | (refine HD2_guardU rfl (by simp) ?_; simp)
    | (refine HD2_guard rfl (by simp) (fun hc => ?_) (fun hc => ?_) <;> (try simp at hc) <;> (try (exfalso; omega)) <;> (try simp))
    | (refine V_sblock ?_; simp)
    | (refine V_sregion ?_; simp)
    | (refine V_ret ?_; simp only [RK_seq, RK_seq_ret, RK_seq_exit, RK_blk, RK_blk_ret, RK_blk_exit, RK_loop, RK_loop_ret, RK_loop_exit, RK_done])
    | (refine V_skip ?_; simp only [RK_seq, RK_seq_ret, RK_seq_exit, RK_blk, RK_blk_ret, RK_blk_exit, RK_loop, RK_loop_ret, RK_loop_exit, RK_done])
    | (refine V_exit ?_; simp [RK_seq, RK_seq_ret, RK_seq_exit, RK_blk, RK_blk_ret, RK_blk_exit, RK_loop, RK_loop_ret, RK_loop_exit, RK_done])
    | (refine ⟨?_, by omega⟩)
    | (refine ⟨fun hc => ?_, fun hc => ?_⟩ <;> (try (exfalso; omega)))
    | (intro hc <;> (try (exfalso; omega)))
    | (refine CallV.fun_ (hvf) (by first | rfl | fail) (by first | assumption | (simp; done) | fail) (by first | (simp; done) | (simp; rfl) | fail) (by first | (simp; done) | fail) ?_ <;> (try simp))
    | (refine CallP.fun_ (hvf) (by first | rfl | fail) (by first | assumption | (simp; done) | fail) (by first | (simp; done) | (simp; rfl) | fail) (by first | (simp; done) | fail) (fun d hd => ?_); subst hd; (try simp)))
    all_goals
      refine EndW.norm (EndW.here ?_)
      (refine EndOK.val (.inr rfl) ?_; simp [resD, oneOrTup, pureD, Try.results12, frz_obs, frz_env, norm_obs, norm_env, frz, frzOb, frzS, fv, fzVec, fzMap, fzBox, frzObS, frz_entD, frz_rowsD, normD, normU, norm1, normOb])
  rw [hv] at hvf
  have h60 : l.length ≤ 60 := by
    rw [validB_eq] at hv
    simp [rightS] at hv
    omega
  by_cases hk1 : kind = 1
  · subst hk1
    have ho : orderS l 1 seed = (drawS seed l.length l.length).map fun j => l.getD j.toNat 0 := by simp [orderS, hv]
    rw [ho]
    (refine Fun.of_bodyW Try.func12 rfl (by simp) fun Γ hn => ?_); simp only [entry, List.zipIdx_cons, List.zipIdx_nil, List.map_cons, List.map_nil, Nat.zero_add, Try.ntmps12]
    have hD : drawS seed l.length l.length = drawG seed l.length l.length := by
      rw [drawS, if_neg (by omega)]
      simp only [Int.toNat_natCast]
      rw [List.take_of_length_le (by rw [drawG_length]; exact Nat.le_refl _)]
    have hDl := drawG_length seed l.length l.length
    have hDr : ∀ k z, (drawG seed l.length l.length)[k]? = some z → ∃ Z : Nat, z = (Z : Int) ∧ Z < l.length := fun k z hz => by
      have := (drawG_perm seed l.length l.length (Nat.le_refl _)).mem_iff.1 (List.mem_of_getElem? hz)
      obtain ⟨Z, hZ, rfl⟩ := List.mem_map.1 this
      exact ⟨Z, rfl, List.mem_range.1 hZ⟩
    rw [hD] at hdf ⊢
    generalize drawG seed l.length l.length = dl at hdf hDl hDr
    repeat' (first
    | (refine H_cons ?_; simp)
    | (refine HD2_val rfl ?_; simp)
    | (refine HD_cons ?_; simp)
    | (refine HD2_chg rfl ?_; simp)
    | (refine H_nil ?_; simp)
    | (refine ⟨by omega, ?_⟩)
    | (refine V_sseq ?_; simp)
    | (refine V_scond ?_; simp)
    | (refine HD2_nil (hC _ (by kernel_rfl)) (hk _ ?_); clear hC hk C k; simp only [RK_seq, RK_seq_ret, RK_seq_exit, RK_blk, RK_blk_ret, RK_blk_exit, RK_loop, RK_loop_ret, RK_loop_exit, RK_done])
    | (refine HD_nil ?_)
    | (refine hk _ ?_; clear hk k; simp only [RK_seq, RK_seq_ret, RK_seq_exit, RK_blk, RK_blk_ret, RK_blk_exit, RK_loop, RK_loop_ret, RK_loop_exit, RK_done])
    | (refine V_drawV rfl (by kernel_rfl) (by kernel_rfl) fun k hk => ?_; simp)
    | (refine V_drawN rfl (by kernel_rfl) (by kernel_rfl) (by simp [hn]) fun C k hC hk => ?_; simp)
    | (refine HD3_val rfl ?_; simp)
    | (refine HD3_put ?_; simp)
    | (refine HD3_chg rfl rfl ?_; simp)
    | (refine HD3_nil (hC _ _ (by kernel_rfl) (by kernel_rfl)) (hk _ ?_); clear hC hk C k; simp only [RK_seq, RK_seq_ret, RK_seq_exit, RK_blk, RK_blk_ret, RK_blk_exit, RK_loop, RK_loop_ret, RK_loop_exit, RK_done]; simp [St.ins, insL, putE, getK_setOb, getK_cons])
    | (refine V_drawE rfl (by kernel_rfl) (by kernel_rfl) (by simp [hn]) fun C k hC hk => ?_; simp)
    | (refine HD_guardU rfl (by simp) ?_; simp)
    | (refine HD_guard rfl (by simp) (fun hc => ?_) (fun hc => ?_) <;> (try simp at hc) <;> (try (exfalso; omega)) <;> (try simp))
    | (refine HD2_guardU rfl (by simp) ?_; simp)
    | (refine HD2_guard rfl (by simp) (fun hc => ?_) (fun hc => ?_) <;> (try simp at hc) <;> (try (exfalso; omega)) <;> (try simp))
    | (refine V_sblock ?_; simp)
    | (refine V_sregion ?_; simp)
    | (refine V_ret ?_; simp only [RK_seq, RK_seq_ret, RK_seq_exit, RK_blk, RK_blk_ret, RK_blk_exit, RK_loop, RK_loop_ret, RK_loop_exit, RK_done])
    | (refine V_skip ?_; simp only [RK_seq, RK_seq_ret, RK_seq_exit, RK_blk, RK_blk_ret, RK_blk_exit, RK_loop, RK_loop_ret, RK_loop_exit, RK_done])
    | (refine V_exit ?_; simp [RK_seq, RK_seq_ret, RK_seq_exit, RK_blk, RK_blk_ret, RK_blk_exit, RK_loop, RK_loop_ret, RK_loop_exit, RK_done])
    | (refine ⟨?_, by omega⟩)
    | (refine ⟨fun hc => ?_, fun hc => ?_⟩ <;> (try (exfalso; omega)))
    | (intro hc <;> (try (exfalso; omega)))
    | (refine CallV.fun_ (hvf) (by first | rfl | fail) (by first | assumption | (simp; done) | fail) (by first | (simp; done) | (simp; rfl) | fail) (by first | (simp; done) | fail) ?_ <;> (try simp))
    | (refine CallP.fun_ (hvf) (by first | rfl | fail) (by first | assumption | (simp; done) | fail) (by first | (simp; done) | (simp; rfl) | fail) (by first | (simp; done) | fail) (fun d hd => ?_); subst hd; (try simp))
    | (refine CallV.fun_ (hdf) (by first | rfl | fail) (by first | assumption | (simp; done) | fail) (by first | (simp; done) | (simp; rfl) | fail) (by first | (simp; done) | fail) ?_ <;> (try simp))
    | (refine CallP.fun_ (hdf) (by first | rfl | fail) (by first | assumption | (simp; done) | fail) (by first | (simp; done) | (simp; rfl) | fail) (by first | (simp; done) | fail) (fun d hd => ?_); subst hd; (try simp))
    | (refine CallP.ret0 (hcl) (by rfl) (by first | assumption | simp) (by rfl) (by simp) ?_; rintro d o n' hn' ⟨j, hj0, hj1, rfl, rfl⟩; (try simp at hn'); (try simp)))
    refine V_loopO (α := { k : Nat // k ≤ l.length }) [0, 7, 23, 24] (fun k => [(25, .u (.int .i64 k.1))]) (fun k => [(j, .vec 3 1 (intR ((dl.map fun j => l[j.toNat]?.getD 0).take k.1 ++ l.drop k.1)))]) (j + 1) (fun k => l.length - k.1) ⟨0, by omega⟩ ?_ ?_
    · exact (Wk.auto _ (by simp [rhoL, idOf, St.lp, keepE, getK_cons, getK, getK_del, getK_setOb] <;> rfl) rfl (by simp [hn]) (by simp [rhoF, wkER, St.lp, keepE, getK_cons, getK, getK_del, getK_setOb, D.under, D.le, D.ren, pure_intR, under_intR] <;> (try (intros; simp_all; done)) <;> (try omega)) (by simp [rhoF, wkR, St.lp, getK_cons, getK, getK_del, getK_setOb, obR, leU, pureRow, pureRows, Ob.under, D.under, D.le, D.ren, pure_intR, under_intR] <;> (try (intros; simp_all; done)) <;> (try omega)) (by simp [rhoF]))
    rintro ⟨q, hq⟩
    simp [St.lp, St.only, keepE, getK_cons, getK]
    rcases hx : dl[q]? with _ | z
    · have hge : dl.length ≤ q := by simpa using hx
      obtain rfl : q = l.length := by omega
      have htk : (dl.map fun j => l[j.toNat]?.getD 0).take l.length = dl.map fun j => l[j.toNat]?.getD 0 := List.take_of_length_le (by simp; omega)
      repeat' (first
    | (refine H_cons ?_; simp [hDl])
    | (refine HD2_val rfl ?_; simp [hDl])
    | (refine HD_cons ?_; simp [hDl])
    | (refine HD2_chg rfl ?_; simp [hDl])
    | (refine H_nil ?_; simp [hDl])
    | (refine ⟨by omega, ?_⟩)
    | (refine V_sseq ?_; simp [hDl])
    | (refine V_scond ?_; simp [hDl])
    | (refine HD2_nil (hC _ (by kernel_rfl)) (hk _ ?_); clear hC hk C k; simp only [RK_seq, RK_seq_ret, RK_seq_exit, RK_blk, RK_blk_ret, RK_blk_exit, RK_loop, RK_loop_ret, RK_loop_exit, RK_done])
    | (refine HD_nil ?_)
    | (refine hk _ ?_; clear hk k; simp only [RK_seq, RK_seq_ret, RK_seq_exit, RK_blk, RK_blk_ret, RK_blk_exit, RK_loop, RK_loop_ret, RK_loop_exit, RK_done])
    | (refine V_drawV rfl (by kernel_rfl) (by kernel_rfl) fun k hk => ?_; simp [hDl])
    | (refine V_drawN rfl (by kernel_rfl) (by kernel_rfl) (by simp [hn]) fun C k hC hk => ?_; simp [hDl])
    | (refine HD3_val rfl ?_; simp [hDl])
    | (refine HD3_put ?_; simp [hDl])
    | (refine HD3_chg rfl rfl ?_; simp [hDl])
    | (refine HD3_nil (hC _ _ (by kernel_rfl) (by kernel_rfl)) (hk _ ?_); clear hC hk C k; simp only [RK_seq, RK_seq_ret, RK_seq_exit, RK_blk, RK_blk_ret, RK_blk_exit, RK_loop, RK_loop_ret, RK_loop_exit, RK_done]; simp [St.ins, insL, putE, getK_setOb, getK_cons])
    | (refine V_drawE rfl (by kernel_rfl) (by kernel_rfl) (by simp [hn]) fun C k hC hk => ?_; simp [hDl])
    | (refine HD_guardU rfl (by simp [hDl]) ?_; simp [hDl])
    | (refine HD_guard rfl (by simp [hDl]) (fun hc => ?_) (fun hc => ?_) <;> (try simp [hDl] at hc) <;> (try (exfalso; omega)) <;> (try simp [hDl]))
    | (refine HD2_guardU rfl (by simp [hDl]) ?_; simp [hDl])
    | (refine HD2_guard rfl (by simp [hDl]) (fun hc => ?_) (fun hc => ?_) <;> (try simp [hDl] at hc) <;> (try (exfalso; omega)) <;> (try simp [hDl]))
    | (refine V_sblock ?_; simp [hDl])
    | (refine V_sregion ?_; simp [hDl])
    | (refine V_ret ?_; simp only [RK_seq, RK_seq_ret, RK_seq_exit, RK_blk, RK_blk_ret, RK_blk_exit, RK_loop, RK_loop_ret, RK_loop_exit, RK_done])
    | (refine V_skip ?_; simp only [RK_seq, RK_seq_ret, RK_seq_exit, RK_blk, RK_blk_ret, RK_blk_exit, RK_loop, RK_loop_ret, RK_loop_exit, RK_done])
    | (refine V_exit ?_; simp [RK_seq, RK_seq_ret, RK_seq_exit, RK_blk, RK_blk_ret, RK_blk_exit, RK_loop, RK_loop_ret, RK_loop_exit, RK_done])
    | (refine ⟨?_, by omega⟩)
    | (refine ⟨fun hc => ?_, fun hc => ?_⟩ <;> (try (exfalso; omega)))
    | (intro hc <;> (try (exfalso; omega))))
      (refine EndW.frzN 1 ?_; simp [frzN, frz1, frz_env, frz_obs, St.frz, St.frzS, frzS, fv, fzVec, fzMap, fzBox, frzObS, frz_entD, frz_rowsD, del, frz, frzOb, intR_all, intR_len, intR_take, htk, hDl])
      refine EndW.norm (EndW.here ?_)
      (refine EndOK.val (.inr rfl) ?_; simp [resD, oneOrTup, pureD, Try.results12, frz_obs, frz_env, norm_obs, norm_env, frz, frzOb, frzS, fv, fzVec, fzMap, fzBox, frzObS, frz_entD, frz_rowsD, normD, normU, norm1, normOb, intR_all, intR_len, intR_take, htk, hDl])
    · obtain ⟨Z, rfl, hZ⟩ := hDr q z hx
      have hlt : q < l.length := by have := (List.getElem?_eq_some_iff.1 hx).1; omega
      obtain ⟨y, hy⟩ : ∃ y, l[Z]? = some y := ⟨_, List.getElem?_eq_getElem hZ⟩
      have hst : ((dl.map fun j => l[j.toNat]?.getD 0).take q ++ l.drop q).set q y = (dl.map fun j => l[j.toNat]?.getD 0).take (q + 1) ++ l.drop (q + 1) := by
        have h1 : (dl.map fun j => l[j.toNat]?.getD 0)[q]? = some y := by simp [hx, hy]
        have h2 : ((dl.map fun j => l[j.toNat]?.getD 0).take q).length = q := by simp; omega
        rw [List.set_append_right _ _ (by omega), h2, Nat.sub_self, take_snoc h1, List.append_assoc]
        congr 1
        rw [List.drop_eq_getElem_cons hlt]
        rfl
      generalize hA : (dl.map fun j => l[j.toNat]?.getD 0) = A at hst
      have hAl : A.length = l.length := by rw [← hA]; simp [hDl]
      have hlen : (A.take q ++ l.drop q).length = l.length := by simp; omega
      try simp only [hA]
      generalize hB : A.take q ++ l.drop q = B at hst hlen
      try simp only [hB]
      have hdq : ∀ h : q < dl.length, dl[q]'h = (Z : Int) := fun h => (List.getElem?_eq_some_iff.1 hx).2
      repeat' (first
    | (refine H_cons ?_; simp [hDl, hdq, hy, hlt, intR_len, hlen, intR_getE, intR_set, hst])
    | (refine HD2_val rfl ?_; simp [hDl, hdq, hy, hlt, intR_len, hlen, intR_getE, intR_set, hst])
    | (refine HD_cons ?_; simp [hDl, hdq, hy, hlt, intR_len, hlen, intR_getE, intR_set, hst])
    | (refine HD2_chg rfl ?_; simp [hDl, hdq, hy, hlt, intR_len, hlen, intR_getE, intR_set, hst])
    | (refine H_nil ?_; simp [hDl, hdq, hy, hlt, intR_len, hlen, intR_getE, intR_set, hst])
    | (refine ⟨by omega, ?_⟩)
    | (refine V_sseq ?_; simp [hDl, hdq, hy, hlt, intR_len, hlen, intR_getE, intR_set, hst])
    | (refine V_scond ?_; simp [hDl, hdq, hy, hlt, intR_len, hlen, intR_getE, intR_set, hst])
    | (refine HD2_nil (hC _ (by kernel_rfl)) (hk _ ?_); clear hC hk C k; simp only [RK_seq, RK_seq_ret, RK_seq_exit, RK_blk, RK_blk_ret, RK_blk_exit, RK_loop, RK_loop_ret, RK_loop_exit, RK_done])
    | (refine HD_nil ?_)
    | (refine hk _ ?_; clear hk k; simp only [RK_seq, RK_seq_ret, RK_seq_exit, RK_blk, RK_blk_ret, RK_blk_exit, RK_loop, RK_loop_ret, RK_loop_exit, RK_done])
    | (refine V_drawV rfl (by kernel_rfl) (by kernel_rfl) fun k hk => ?_; simp [hDl, hdq, hy, hlt, intR_len, hlen, intR_getE, intR_set, hst])
    | (refine V_drawN rfl (by kernel_rfl) (by kernel_rfl) (by simp [hn]) fun C k hC hk => ?_; simp [hDl, hdq, hy, hlt, intR_len, hlen, intR_getE, intR_set, hst])
    | (refine HD3_val rfl ?_; simp [hDl, hdq, hy, hlt, intR_len, hlen, intR_getE, intR_set, hst])
    | (refine HD3_put ?_; simp [hDl, hdq, hy, hlt, intR_len, hlen, intR_getE, intR_set, hst])
    | (refine HD3_chg rfl rfl ?_; simp [hDl, hdq, hy, hlt, intR_len, hlen, intR_getE, intR_set, hst])
    | (refine HD3_nil (hC _ _ (by kernel_rfl) (by kernel_rfl)) (hk _ ?_); clear hC hk C k; simp only [RK_seq, RK_seq_ret, RK_seq_exit, RK_blk, RK_blk_ret, RK_blk_exit, RK_loop, RK_loop_ret, RK_loop_exit, RK_done]; simp [St.ins, insL, putE, getK_setOb, getK_cons])
    | (refine V_drawE rfl (by kernel_rfl) (by kernel_rfl) (by simp [hn]) fun C k hC hk => ?_; simp [hDl, hdq, hy, hlt, intR_len, hlen, intR_getE, intR_set, hst])
    | (refine HD_guardU rfl (by simp [hDl, hdq, hy, hlt, intR_len, hlen, intR_getE, intR_set, hst]) ?_; simp [hDl, hdq, hy, hlt, intR_len, hlen, intR_getE, intR_set, hst])
    | (refine HD_guard rfl (by simp [hDl, hdq, hy, hlt, intR_len, hlen, intR_getE, intR_set, hst]) (fun hc => ?_) (fun hc => ?_) <;> (try simp [hDl, hdq, hy, hlt, intR_len, hlen, intR_getE, intR_set, hst] at hc) <;> (try (exfalso; omega)) <;> (try simp [hDl, hdq, hy, hlt, intR_len, hlen, intR_getE, intR_set, hst]))
    | (refine HD2_guardU rfl (by simp [hDl, hdq, hy, hlt, intR_len, hlen, intR_getE, intR_set, hst]) ?_; simp [hDl, hdq, hy, hlt, intR_len, hlen, intR_getE, intR_set, hst])
    | (refine HD2_guard rfl (by simp [hDl, hdq, hy, hlt, intR_len, hlen, intR_getE, intR_set, hst]) (fun hc => ?_) (fun hc => ?_) <;> (try simp [hDl, hdq, hy, hlt, intR_len, hlen, intR_getE, intR_set, hst] at hc) <;> (try (exfalso; omega)) <;> (try simp [hDl, hdq, hy, hlt, intR_len, hlen, intR_getE, intR_set, hst]))
    | (refine V_sblock ?_; simp [hDl, hdq, hy, hlt, intR_len, hlen, intR_getE, intR_set, hst])
    | (refine V_sregion ?_; simp [hDl, hdq, hy, hlt, intR_len, hlen, intR_getE, intR_set, hst])
    | (refine V_ret ?_; simp only [RK_seq, RK_seq_ret, RK_seq_exit, RK_blk, RK_blk_ret, RK_blk_exit, RK_loop, RK_loop_ret, RK_loop_exit, RK_done])
    | (refine V_skip ?_; simp only [RK_seq, RK_seq_ret, RK_seq_exit, RK_blk, RK_blk_ret, RK_blk_exit, RK_loop, RK_loop_ret, RK_loop_exit, RK_done])
    | (refine V_exit ?_; simp [RK_seq, RK_seq_ret, RK_seq_exit, RK_blk, RK_blk_ret, RK_blk_exit, RK_loop, RK_loop_ret, RK_loop_exit, RK_done])
    | (refine ⟨?_, by omega⟩)
    | (refine ⟨fun hc => ?_, fun hc => ?_⟩ <;> (try (exfalso; omega)))
    | (intro hc <;> (try (exfalso; omega))))
      refine LoopW.next ⟨q + 1, by omega⟩ (by simp; omega) ?_
      try simp only [hA]
      exact (Wk.auto _ (by simp [rhoL, idOf, St.lp, keepE, getK_cons, getK, getK_del, getK_setOb] <;> rfl) rfl (by simp [hn]) (by simp [rhoF, wkER, St.lp, keepE, getK_cons, getK, getK_del, getK_setOb, D.under, D.le, D.ren, pure_intR, under_intR] <;> (try (intros; simp_all; done)) <;> (try omega)) (by simp [rhoF, wkR, St.lp, getK_cons, getK, getK_del, getK_setOb, obR, leU, pureRow, pureRows, Ob.under, D.under, D.le, D.ren, pure_intR, under_intR] <;> (try (intros; simp_all; done)) <;> (try omega)) (by simp [rhoF]))
  · have ho : orderS l kind seed = l := by simp [orderS, hv, hk1]
    rw [ho]
    (refine Fun.of_bodyW Try.func12 rfl (by simp) fun Γ hn => ?_); simp only [entry, List.zipIdx_cons, List.zipIdx_nil, List.map_cons, List.map_nil, Nat.zero_add, Try.ntmps12]
    repeat' (first
    | (refine H_cons ?_; simp [hk1])
    | (refine HD2_val rfl ?_; simp [hk1])
    | (refine HD_cons ?_; simp [hk1])
    | (refine HD2_chg rfl ?_; simp [hk1])
    | (refine H_nil ?_; simp [hk1])
    | (refine ⟨by omega, ?_⟩)
    | (refine V_sseq ?_; simp [hk1])
    | (refine V_scond ?_; simp [hk1])
    | (refine HD2_nil (hC _ (by kernel_rfl)) (hk _ ?_); clear hC hk C k; simp only [RK_seq, RK_seq_ret, RK_seq_exit, RK_blk, RK_blk_ret, RK_blk_exit, RK_loop, RK_loop_ret, RK_loop_exit, RK_done])
    | (refine HD_nil ?_)
    | (refine hk _ ?_; clear hk k; simp only [RK_seq, RK_seq_ret, RK_seq_exit, RK_blk, RK_blk_ret, RK_blk_exit, RK_loop, RK_loop_ret, RK_loop_exit, RK_done])
    | (refine V_drawV rfl (by kernel_rfl) (by kernel_rfl) fun k hk => ?_; simp [hk1])
    | (refine V_drawN rfl (by kernel_rfl) (by kernel_rfl) (by simp [hn]) fun C k hC hk => ?_; simp [hk1])
    | (refine HD3_val rfl ?_; simp [hk1])
    | (refine HD3_put ?_; simp [hk1])
    | (refine HD3_chg rfl rfl ?_; simp [hk1])
    | (refine HD3_nil (hC _ _ (by kernel_rfl) (by kernel_rfl)) (hk _ ?_); clear hC hk C k; simp only [RK_seq, RK_seq_ret, RK_seq_exit, RK_blk, RK_blk_ret, RK_blk_exit, RK_loop, RK_loop_ret, RK_loop_exit, RK_done]; simp [St.ins, insL, putE, getK_setOb, getK_cons])
    | (refine V_drawE rfl (by kernel_rfl) (by kernel_rfl) (by simp [hn]) fun C k hC hk => ?_; simp [hk1])
    | (refine HD_guardU rfl (by simp [hk1]) ?_; simp [hk1])
    | (refine HD_guard rfl (by simp [hk1]) (fun hc => ?_) (fun hc => ?_) <;> (try simp [hk1] at hc) <;> (try (exfalso; omega)) <;> (try simp [hk1]))
    | (refine HD2_guardU rfl (by simp [hk1]) ?_; simp [hk1])
    | (refine HD2_guard rfl (by simp [hk1]) (fun hc => ?_) (fun hc => ?_) <;> (try simp [hk1] at hc) <;> (try (exfalso; omega)) <;> (try simp [hk1]))
    | (refine V_sblock ?_; simp [hk1])
    | (refine V_sregion ?_; simp [hk1])
    | (refine V_ret ?_; simp only [RK_seq, RK_seq_ret, RK_seq_exit, RK_blk, RK_blk_ret, RK_blk_exit, RK_loop, RK_loop_ret, RK_loop_exit, RK_done])
    | (refine V_skip ?_; simp only [RK_seq, RK_seq_ret, RK_seq_exit, RK_blk, RK_blk_ret, RK_blk_exit, RK_loop, RK_loop_ret, RK_loop_exit, RK_done])
    | (refine V_exit ?_; simp [RK_seq, RK_seq_ret, RK_seq_exit, RK_blk, RK_blk_ret, RK_blk_exit, RK_loop, RK_loop_ret, RK_loop_exit, RK_done])
    | (refine ⟨?_, by omega⟩)
    | (refine ⟨fun hc => ?_, fun hc => ?_⟩ <;> (try (exfalso; omega)))
    | (intro hc <;> (try (exfalso; omega)))
    | (refine CallV.fun_ (hvf) (by first | rfl | fail) (by first | assumption | (simp; done) | fail) (by first | (simp [hk1]; done) | (simp [hk1]; rfl) | fail) (by first | (simp; done) | fail) ?_ <;> (try simp [hk1]))
    | (refine CallP.fun_ (hvf) (by first | rfl | fail) (by first | assumption | (simp; done) | fail) (by first | (simp [hk1]; done) | (simp [hk1]; rfl) | fail) (by first | (simp; done) | fail) (fun d hd => ?_); subst hd; (try simp [hk1]))
    | (refine CallP.ret0 (hcl) (by rfl) (by first | assumption | simp) (by rfl) (by simp) ?_; rintro d o n' hn' ⟨j, hj0, hj1, rfl, rfl⟩; (try simp at hn'); (try simp [hk1])))
    (refine EndW.frzN 1 ?_; simp [frzN, frz1, frz_env, frz_obs, St.frz, St.frzS, frzS, fv, fzVec, fzMap, fzBox, frzObS, frz_entD, frz_rowsD, del, frz, frzOb, intR_all, intR_len, intR_take])
    refine EndW.norm (EndW.here ?_)
    (refine EndOK.val (.inr rfl) ?_; simp [resD, oneOrTup, pureD, Try.results12, frz_obs, frz_env, norm_obs, norm_env, frz, frzOb, frzS, fv, fzVec, fzMap, fzBox, frzObS, frz_entD, frz_rowsD, normD, normU, norm1, normOb, intR_all, intR_len, intR_take])
end Go.Proofs.Ytmebfcehkfaiaaa
