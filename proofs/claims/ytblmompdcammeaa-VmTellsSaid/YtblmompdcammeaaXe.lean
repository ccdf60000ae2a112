/- VmTells: for every input the law returns true, and each argument reads afterwards as it read before. No condition. -/
import Derived.Test.YtblmompdcammeaaXc
import Derived.Test.YtblmompdcammeaaWw
import Derived.Test.YtblmompdcammeaaWy
set_option linter.all false
namespace Go.Proofs.Ytblmompdcammeaa
open Go Go.VL
attribute [local simp] hcons hstep evPure opd uOf putOK St.put St.at getK binD binI binS binB nilD aggD eqUs cmpK shiftI arith unD convD pickD loadD cellsAt fieldAddrD fieldD indexAddrD indexD sliceD cutD lenD minmaxD nilCheckD buildD fillD cellsD isOne ones setAll mkAgg allU allocD boxD storeD St.add buildSliceD appendD rowsOf makeD setOb getK_setOb getK_del getK_cons stripL strip guardTmp entry chunks zcells valD argsV argsW argW argU1 argU0 argsU0 argsU1 calleeOf scalarD scalarU delAll effD St.effS applyW mkD rdIds lentIds callOf calleeOf freeOp D.ids Op.operands Call.operands isEffOp IntKind.bits allU2 allU2_append List.take_of_length_le List.range_succ
attribute [local irreducible] V G H HD HD2 RunK Eff CallP CallV EndOK Fun Ret FinOK LoopI LoopW EndW
set_option maxHeartbeats 4000000 in
theorem rrun_fun (l : List Ins) (vs : List Var) (fuel : Int) (hfu : fuel ≤ 3000) : Fun Try.prog 9 [.u (inss l), .u (vars vs), .u (.int .i64 fuel)]
    (· = .tup [.u (.int .i64 (runM l vs fuel).1), .u (.int .i64 (runM l vs fuel).2.1), .u (.int .i64 (runM l vs fuel).2.2)]) := by
  have hst := fun (m : Mach) (h : m.stack.length ≤ 100000) => rstep_fun l vs m h
  by_cases h0 : fuel < 0
  · have hR : runM l vs fuel = (0, 0, 1) := by unfold runM; rw [if_pos (.inl h0)]
    rw [hR]
    (refine Fun.of_body Try.func9 rfl (by simp) fun Γ hn => ?_); simp only [entry, List.zipIdx_cons, List.zipIdx_nil, List.map_cons, List.map_nil, Nat.zero_add, Try.ntmps9]
    repeat' (first
    | (refine H_cons ?_; simp)
    | (refine H_nil ?_)
    | (refine HD_nil ?_)
    | (refine HD_cons ?_; simp)
    | (refine HD_guardU rfl (by simp) ?_; simp)
    | (refine HD_guard rfl (by simp) (fun hc => ?_) (fun hc => ?_) <;> (try simp at hc) <;> (try (exfalso; omega)) <;> (try simp))
    | (refine V_seq ?_)
    | (refine V_region1 fun k hk => ?_; simp)
    | (refine V_drawV rfl (by kernel_rfl) (by kernel_rfl) fun k hk => ?_; simp)
    | (refine V_drawE rfl (by kernel_rfl) (by kernel_rfl) (by simp [hn]) fun C k hC hk => ?_; simp)
    | (refine HD2_nil (hC _ (by kernel_rfl)) (hk _ ?_); clear hC hk C k)
    | (refine HD2_val rfl ?_; simp)
    | (refine HD2_chg rfl ?_; simp)
    | (refine HD2_guardU rfl (by simp) ?_; simp)
    | (refine HD2_guard rfl (by simp) (fun hc => ?_) (fun hc => ?_) <;> (try simp at hc) <;> (try (exfalso; omega)) <;> (try simp))
    | (refine V_block ?_)
        | (refine V_ret ?_)
    | (refine V_exit ?_)
    | (refine V_skip ?_)
    | (refine R_seq ?_)
    | (refine R_seq_ret ?_)
    | (refine R_seq_exit ?_)
    | (refine R_blk_ret ?_)
    | (refine R_blk ?_)
    | (refine R_blk_exit ?_)
    | (refine R_blk_other (by decide) ?_)
    | (refine R_loop_ret ?_)
    | (refine R_loop_exit ?_)
    | (refine R_loop ?_)
    | (refine R_done ?_)
    | (refine hk _ ?_; clear hk k)
    | (refine ⟨by omega, ?_⟩)
    | (refine ⟨?_, by omega⟩)
    | (refine ⟨fun hc => ?_, fun hc => ?_⟩ <;> (try (exfalso; omega)))
    | (refine V_cond rfl (fun hc => ?_) (fun hc => ?_) <;> (try simp at hc) <;> (try (exfalso; omega)))
    | (intro hc <;> (try (exfalso; omega))))
    (refine EndOK.val (.inr rfl) ?_; simp [resD, oneOrTup, pureD, Try.results9])
  (refine Fun.of_body Try.func9 rfl (by simp) fun Γ hn => ?_); simp only [entry, List.zipIdx_cons, List.zipIdx_nil, List.map_cons, List.map_nil, Nat.zero_add, Try.ntmps9]
  simp only [StepR, inss, vars, magg, ints] at hst ⊢
  repeat' (first
    | (refine H_cons ?_; simp)
    | (refine H_nil ?_)
    | (refine HD_nil ?_)
    | (refine HD_cons ?_; simp)
    | (refine HD_guardU rfl (by simp) ?_; simp)
    | (refine HD_guard rfl (by simp) (fun hc => ?_) (fun hc => ?_) <;> (try simp at hc) <;> (try (exfalso; omega)) <;> (try simp))
    | (refine V_seq ?_)
    | (refine V_region1 fun k hk => ?_; simp)
    | (refine V_drawV rfl (by kernel_rfl) (by kernel_rfl) fun k hk => ?_; simp)
    | (refine V_drawE rfl (by kernel_rfl) (by kernel_rfl) (by simp [hn]) fun C k hC hk => ?_; simp)
    | (refine HD2_nil (hC _ (by kernel_rfl)) (hk _ ?_); clear hC hk C k)
    | (refine HD2_val rfl ?_; simp)
    | (refine HD2_chg rfl ?_; simp)
    | (refine HD2_guardU rfl (by simp) ?_; simp)
    | (refine HD2_guard rfl (by simp) (fun hc => ?_) (fun hc => ?_) <;> (try simp at hc) <;> (try (exfalso; omega)) <;> (try simp))
    | (refine V_block ?_)
        | (refine V_ret ?_)
    | (refine V_exit ?_)
    | (refine V_skip ?_)
    | (refine R_seq ?_)
    | (refine R_seq_ret ?_)
    | (refine R_seq_exit ?_)
    | (refine R_blk_ret ?_)
    | (refine R_blk ?_)
    | (refine R_blk_exit ?_)
    | (refine R_blk_other (by decide) ?_)
    | (refine R_loop_ret ?_)
    | (refine R_loop_exit ?_)
    | (refine R_loop ?_)
    | (refine R_done ?_)
    | (refine hk _ ?_; clear hk k)
    | (refine ⟨by omega, ?_⟩)
    | (refine ⟨?_, by omega⟩)
    | (refine ⟨fun hc => ?_, fun hc => ?_⟩ <;> (try (exfalso; omega)))
    | (refine V_cond rfl (fun hc => ?_) (fun hc => ?_) <;> (try simp at hc) <;> (try (exfalso; omega)))
    | (intro hc <;> (try (exfalso; omega))))
  refine V_loopO (α := FuelAt l vs fuel) [0, 1, 2, 9] (fun x => [(10, .u (.int .i64 x.n))]) (fun x => [(0, mcell x.m)]) 1 (fun x => fuel.toNat - x.n)
    ⟨0, run0, by omega, by simp [run0], by simp [run0], fun _ => ⟨by simp [runM, show ¬ (fuel < 0 ∨ 100000 < fuel) by omega], rfl, rfl⟩⟩ ?_ ?_
  · refine (Wk.norm _).trans (Wk.env rfl ?_ rfl ?_)
    · simp [St.norm, normOb, normD, normU, norm1, mcell, run0, ints, St.lp]
    · simp [wkE, St.lp, keepE, getK_cons, getK, norm_env, normD, normU]
  intro x
  simp [St.lp, St.only, keepE, getK_cons, getK]
  simp only [mcell, ints]
  have hs1 := hst x.m (by have := x.hlen; have := x.hn; omega)
  cases hen : x.m.en with
  | false =>
    rw [hen] at hs1
    by_cases hlt : (x.n : Int) < fuel
    · repeat' (first
    | (first | (refine CallV.fun_ (hs1) (by rfl) (by first | assumption | (simp; done) | fail) (by first | (simp [hen]; done) | (simp [hen]; rfl)) (by first | (simp; done) | fail) ?_ <;> (try simp [hen])) | (refine CallP.fun_ (hs1) (by rfl) (by first | assumption | (simp; done) | fail) (by first | (simp [hen]; done) | (simp [hen]; rfl)) (by first | (simp; done) | fail) (fun d hd => ?_); subst hd; (try simp [hen])))
    | (refine H_cons ?_; simp [hen])
    | (refine H_nil ?_)
    | (refine HD_nil ?_)
    | (refine HD_cons ?_; simp [hen])
    | (refine HD_guardU rfl (by simp [hen]) ?_; simp [hen])
    | (refine HD_guard rfl (by simp [hen]) (fun hc => ?_) (fun hc => ?_) <;> (try simp [hen] at hc) <;> (try (exfalso; omega)) <;> (try simp [hen]))
    | (refine V_seq ?_)
    | (refine V_region1 fun k hk => ?_; simp [hen])
    | (refine V_drawV rfl (by kernel_rfl) (by kernel_rfl) fun k hk => ?_; simp [hen])
    | (refine V_drawE rfl (by kernel_rfl) (by kernel_rfl) (by simp [hn]) fun C k hC hk => ?_; simp [hen])
    | (refine HD2_nil (hC _ (by kernel_rfl)) (hk _ ?_); clear hC hk C k)
    | (refine HD2_val rfl ?_; simp [hen])
    | (refine HD2_chg rfl ?_; simp [hen])
    | (refine HD2_guardU rfl (by simp [hen]) ?_; simp [hen])
    | (refine HD2_guard rfl (by simp [hen]) (fun hc => ?_) (fun hc => ?_) <;> (try simp [hen] at hc) <;> (try (exfalso; omega)) <;> (try simp [hen]))
    | (refine V_block ?_)
        | (refine V_ret ?_)
    | (refine V_exit ?_)
    | (refine V_skip ?_)
    | (refine R_seq ?_)
    | (refine R_seq_ret ?_)
    | (refine R_seq_exit ?_)
    | (refine R_blk_ret ?_)
    | (refine R_blk ?_)
    | (refine R_blk_exit ?_)
    | (refine R_blk_other (by decide) ?_)
    | (refine R_loop_ret ?_)
    | (refine R_loop_exit ?_)
    | (refine R_loop ?_)
    | (refine R_done ?_)
    | (refine hk _ ?_; clear hk k)
    | (refine ⟨by omega, ?_⟩)
    | (refine ⟨?_, by omega⟩)
    | (refine ⟨fun hc => ?_, fun hc => ?_⟩ <;> (try (exfalso; omega)))
    | (refine V_cond rfl (fun hc => ?_) (fun hc => ?_) <;> (try simp [hen] at hc) <;> (try (exfalso; omega)))
    | (intro hc <;> (try (exfalso; omega))))
      refine LoopW.next (x.next hen hlt) (by simp [FuelAt.next]; omega) ?_
      exact (Wk.env rfl (by simp [St.lp, FuelAt.next]) rfl (by simp [wkE, St.lp, keepE, getK_cons, getK, FuelAt.next]))
    · obtain ⟨hrun, hva, her⟩ := x.hrun hen
      have hxn := x.hn
      have hR : runM l vs fuel = (0, fuel, 16) := by
        rw [← hrun, show fuel.toNat - x.n = 0 by omega]
        rfl
      repeat' (first
    | (refine H_cons ?_; simp [hen, hR])
    | (refine H_nil ?_)
    | (refine HD_nil ?_)
    | (refine HD_cons ?_; simp [hen, hR])
    | (refine HD_guardU rfl (by simp [hen, hR]) ?_; simp [hen, hR])
    | (refine HD_guard rfl (by simp [hen, hR]) (fun hc => ?_) (fun hc => ?_) <;> (try simp [hen, hR] at hc) <;> (try (exfalso; omega)) <;> (try simp [hen, hR]))
    | (refine V_seq ?_)
    | (refine V_region1 fun k hk => ?_; simp [hen, hR])
    | (refine V_drawV rfl (by kernel_rfl) (by kernel_rfl) fun k hk => ?_; simp [hen, hR])
    | (refine V_drawE rfl (by kernel_rfl) (by kernel_rfl) (by simp [hn]) fun C k hC hk => ?_; simp [hen, hR])
    | (refine HD2_nil (hC _ (by kernel_rfl)) (hk _ ?_); clear hC hk C k)
    | (refine HD2_val rfl ?_; simp [hen, hR])
    | (refine HD2_chg rfl ?_; simp [hen, hR])
    | (refine HD2_guardU rfl (by simp [hen, hR]) ?_; simp [hen, hR])
    | (refine HD2_guard rfl (by simp [hen, hR]) (fun hc => ?_) (fun hc => ?_) <;> (try simp [hen, hR] at hc) <;> (try (exfalso; omega)) <;> (try simp [hen, hR]))
    | (refine V_block ?_)
        | (refine V_ret ?_)
    | (refine V_exit ?_)
    | (refine V_skip ?_)
    | (refine R_seq ?_)
    | (refine R_seq_ret ?_)
    | (refine R_seq_exit ?_)
    | (refine R_blk_ret ?_)
    | (refine R_blk ?_)
    | (refine R_blk_exit ?_)
    | (refine R_blk_other (by decide) ?_)
    | (refine R_loop_ret ?_)
    | (refine R_loop_exit ?_)
    | (refine R_loop ?_)
    | (refine R_done ?_)
    | (refine hk _ ?_; clear hk k)
    | (refine ⟨by omega, ?_⟩)
    | (refine ⟨?_, by omega⟩)
    | (refine ⟨fun hc => ?_, fun hc => ?_⟩ <;> (try (exfalso; omega)))
    | (refine V_cond rfl (fun hc => ?_) (fun hc => ?_) <;> (try simp [hen, hR] at hc) <;> (try (exfalso; omega)))
    | (intro hc <;> (try (exfalso; omega))))
      all_goals
        (refine EndOK.val (.inr rfl) ?_; simp [resD, oneOrTup, pureD, Try.results9])
        simp [hR]
  | true =>
    obtain ⟨hR, hstk, her⟩ := x.hen hen
    have hxn := x.hn
    repeat' (first
    | (refine H_cons ?_; simp [hen, hR])
    | (refine H_nil ?_)
    | (refine HD_nil ?_)
    | (refine HD_cons ?_; simp [hen, hR])
    | (refine HD_guardU rfl (by simp [hen, hR]) ?_; simp [hen, hR])
    | (refine HD_guard rfl (by simp [hen, hR]) (fun hc => ?_) (fun hc => ?_) <;> (try simp [hen, hR] at hc) <;> (try (exfalso; omega)) <;> (try simp [hen, hR]))
    | (refine V_seq ?_)
    | (refine V_region1 fun k hk => ?_; simp [hen, hR])
    | (refine V_drawV rfl (by kernel_rfl) (by kernel_rfl) fun k hk => ?_; simp [hen, hR])
    | (refine V_drawE rfl (by kernel_rfl) (by kernel_rfl) (by simp [hn]) fun C k hC hk => ?_; simp [hen, hR])
    | (refine HD2_nil (hC _ (by kernel_rfl)) (hk _ ?_); clear hC hk C k)
    | (refine HD2_val rfl ?_; simp [hen, hR])
    | (refine HD2_chg rfl ?_; simp [hen, hR])
    | (refine HD2_guardU rfl (by simp [hen, hR]) ?_; simp [hen, hR])
    | (refine HD2_guard rfl (by simp [hen, hR]) (fun hc => ?_) (fun hc => ?_) <;> (try simp [hen, hR] at hc) <;> (try (exfalso; omega)) <;> (try simp [hen, hR]))
    | (refine V_block ?_)
        | (refine V_ret ?_)
    | (refine V_exit ?_)
    | (refine V_skip ?_)
    | (refine R_seq ?_)
    | (refine R_seq_ret ?_)
    | (refine R_seq_exit ?_)
    | (refine R_blk_ret ?_)
    | (refine R_blk ?_)
    | (refine R_blk_exit ?_)
    | (refine R_blk_other (by decide) ?_)
    | (refine R_loop_ret ?_)
    | (refine R_loop_exit ?_)
    | (refine R_loop ?_)
    | (refine R_done ?_)
    | (refine hk _ ?_; clear hk k)
    | (refine ⟨by omega, ?_⟩)
    | (refine ⟨?_, by omega⟩)
    | (refine ⟨fun hc => ?_, fun hc => ?_⟩ <;> (try (exfalso; omega)))
    | (refine V_cond rfl (fun hc => ?_) (fun hc => ?_) <;> (try simp [hen, hR] at hc) <;> (try (exfalso; omega)))
    | (intro hc <;> (try (exfalso; omega))))
    all_goals
      (refine EndOK.val (.inr rfl) ?_; simp [resD, oneOrTup, pureD, Try.results9])
      simp [hR]
theorem machine_fun (m : Mach) : Fun Try.prog 12 [.u (magg m)] (· = .u (magg m)) := by
  (refine Fun.of_bodyW Try.func12 rfl (by simp) fun Γ hn => ?_); simp only [entry, List.zipIdx_cons, List.zipIdx_nil, List.map_cons, List.map_nil, Nat.zero_add, Try.ntmps12]
  simp only [magg, ints]
  repeat' (first
    | (refine H_cons ?_; simp)
    | (refine H_nil ?_)
    | (refine HD_nil ?_)
    | (refine HD_cons ?_; simp)
    | (refine HD_guardU rfl (by simp) ?_; simp)
    | (refine HD_guard rfl (by simp) (fun hc => ?_) (fun hc => ?_) <;> (try simp at hc) <;> (try (exfalso; omega)) <;> (try simp))
    | (refine V_seq ?_)
    | (refine V_region1 fun k hk => ?_; simp)
    | (refine V_drawV rfl (by kernel_rfl) (by kernel_rfl) fun k hk => ?_; simp)
    | (refine V_drawE rfl (by kernel_rfl) (by kernel_rfl) (by simp [hn]) fun C k hC hk => ?_; simp)
    | (refine HD2_nil (hC _ (by kernel_rfl)) (hk _ ?_); clear hC hk C k)
    | (refine HD2_val rfl ?_; simp)
    | (refine HD2_chg rfl ?_; simp)
    | (refine HD2_guardU rfl (by simp) ?_; simp)
    | (refine HD2_guard rfl (by simp) (fun hc => ?_) (fun hc => ?_) <;> (try simp at hc) <;> (try (exfalso; omega)) <;> (try simp))
    | (refine V_block ?_)
        | (refine V_ret ?_)
    | (refine V_exit ?_)
    | (refine V_skip ?_)
    | (refine R_seq ?_)
    | (refine R_seq_ret ?_)
    | (refine R_seq_exit ?_)
    | (refine R_blk_ret ?_)
    | (refine R_blk ?_)
    | (refine R_blk_exit ?_)
    | (refine R_blk_other (by decide) ?_)
    | (refine R_loop_ret ?_)
    | (refine R_loop_exit ?_)
    | (refine R_loop ?_)
    | (refine R_done ?_)
    | (refine hk _ ?_; clear hk k)
    | (refine ⟨by omega, ?_⟩)
    | (refine ⟨?_, by omega⟩)
    | (refine ⟨fun hc => ?_, fun hc => ?_⟩ <;> (try (exfalso; omega)))
    | (refine V_cond rfl (fun hc => ?_) (fun hc => ?_) <;> (try simp at hc) <;> (try (exfalso; omega)))
    | (intro hc <;> (try (exfalso; omega))))
  refine EndW.here ?_
  (refine EndOK.val (.inr rfl) ?_; simp [resD, oneOrTup, pureD, Try.results12, frz_obs, frz_env, norm_obs, norm_env, frz, frzOb, normD, normU, norm1, normOb])
theorem Same_fun (a b : Mach) : Fun Try.prog 16 [.u (magg a), .u (magg b)] (· = .u (.bool (decide (a = b)))) := by
  obtain ⟨pc, st, en, va, er⟩ := a
  obtain ⟨pc', st', en', va', er'⟩ := b
  by_cases hd : pc = pc' ∧ en = en' ∧ va = va' ∧ er = er' ∧ st.length = st'.length
  case neg =>
    have hne : decide ((⟨pc, st, en, va, er⟩ : Mach) = ⟨pc', st', en', va', er'⟩) = false := by
      simp only [Mach.mk.injEq, decide_eq_false_iff_not]
      rintro ⟨rfl, rfl, rfl, rfl, rfl⟩
      exact hd ⟨rfl, rfl, rfl, rfl, rfl⟩
    rw [hne]
    (refine Fun.of_body Try.func16 rfl (by simp) fun Γ hn => ?_); simp only [entry, List.zipIdx_cons, List.zipIdx_nil, List.map_cons, List.map_nil, Nat.zero_add, Try.ntmps16]
    simp only [magg, ints]
    repeat' (first
    | (refine H_cons ?_; simp)
    | (refine H_nil ?_)
    | (refine HD_nil ?_)
    | (refine HD_cons ?_; simp)
    | (refine HD_guardU rfl (by simp) ?_; simp)
    | (refine HD_guard rfl (by simp) (fun hc => ?_) (fun hc => ?_) <;> (try simp at hc) <;> (try (exfalso; omega)) <;> (try simp))
    | (refine V_seq ?_)
    | (refine V_region1 fun k hk => ?_; simp)
    | (refine V_drawV rfl (by kernel_rfl) (by kernel_rfl) fun k hk => ?_; simp)
    | (refine V_drawE rfl (by kernel_rfl) (by kernel_rfl) (by simp [hn]) fun C k hC hk => ?_; simp)
    | (refine HD2_nil (hC _ (by kernel_rfl)) (hk _ ?_); clear hC hk C k)
    | (refine HD2_val rfl ?_; simp)
    | (refine HD2_chg rfl ?_; simp)
    | (refine HD2_guardU rfl (by simp) ?_; simp)
    | (refine HD2_guard rfl (by simp) (fun hc => ?_) (fun hc => ?_) <;> (try simp at hc) <;> (try (exfalso; omega)) <;> (try simp))
    | (refine V_block ?_)
        | (refine V_ret ?_)
    | (refine V_exit ?_)
    | (refine V_skip ?_)
    | (refine R_seq ?_)
    | (refine R_seq_ret ?_)
    | (refine R_seq_exit ?_)
    | (refine R_blk_ret ?_)
    | (refine R_blk ?_)
    | (refine R_blk_exit ?_)
    | (refine R_blk_other (by decide) ?_)
    | (refine R_loop_ret ?_)
    | (refine R_loop_exit ?_)
    | (refine R_loop ?_)
    | (refine R_done ?_)
    | (refine hk _ ?_; clear hk k)
    | (refine ⟨by omega, ?_⟩)
    | (refine ⟨?_, by omega⟩)
    | (refine ⟨fun hc => ?_, fun hc => ?_⟩ <;> (try (exfalso; omega)))
    | (refine V_cond rfl (fun hc => ?_) (fun hc => ?_) <;> (try simp at hc) <;> (try (exfalso; omega)))
    | (intro hc <;> (try (exfalso; omega))))
    all_goals
      first
        | ((refine EndOK.val (.inr rfl) ?_; simp [resD, oneOrTup, pureD, Try.results16]); done)
        | (exfalso; apply hd; refine ⟨by assumption, by assumption, by assumption, by assumption, by omega⟩)
  obtain ⟨rfl, rfl, rfl, rfl, hl⟩ := hd
  have heq : decide ((⟨pc, st, en, va, er⟩ : Mach) = ⟨pc, st', en, va, er⟩) = decide (st = st') := by simp
  rw [heq]
  (refine Fun.of_body Try.func16 rfl (by simp) fun Γ hn => ?_); simp only [entry, List.zipIdx_cons, List.zipIdx_nil, List.map_cons, List.map_nil, Nat.zero_add, Try.ntmps16]
  simp only [magg, ints]
  repeat' (first
    | (refine H_cons ?_; simp [hl])
    | (refine H_nil ?_)
    | (refine HD_nil ?_)
    | (refine HD_cons ?_; simp [hl])
    | (refine HD_guardU rfl (by simp [hl]) ?_; simp [hl])
    | (refine HD_guard rfl (by simp [hl]) (fun hc => ?_) (fun hc => ?_) <;> (try simp [hl] at hc) <;> (try (exfalso; omega)) <;> (try simp [hl]))
    | (refine V_seq ?_)
    | (refine V_region1 fun k hk => ?_; simp [hl])
    | (refine V_drawV rfl (by kernel_rfl) (by kernel_rfl) fun k hk => ?_; simp [hl])
    | (refine V_drawE rfl (by kernel_rfl) (by kernel_rfl) (by simp [hn]) fun C k hC hk => ?_; simp [hl])
    | (refine HD2_nil (hC _ (by kernel_rfl)) (hk _ ?_); clear hC hk C k)
    | (refine HD2_val rfl ?_; simp [hl])
    | (refine HD2_chg rfl ?_; simp [hl])
    | (refine HD2_guardU rfl (by simp [hl]) ?_; simp [hl])
    | (refine HD2_guard rfl (by simp [hl]) (fun hc => ?_) (fun hc => ?_) <;> (try simp [hl] at hc) <;> (try (exfalso; omega)) <;> (try simp [hl]))
    | (refine V_block ?_)
        | (refine V_ret ?_)
    | (refine V_exit ?_)
    | (refine V_skip ?_)
    | (refine R_seq ?_)
    | (refine R_seq_ret ?_)
    | (refine R_seq_exit ?_)
    | (refine R_blk_ret ?_)
    | (refine R_blk ?_)
    | (refine R_blk_exit ?_)
    | (refine R_blk_other (by decide) ?_)
    | (refine R_loop_ret ?_)
    | (refine R_loop_exit ?_)
    | (refine R_loop ?_)
    | (refine R_done ?_)
    | (refine hk _ ?_; clear hk k)
    | (refine ⟨by omega, ?_⟩)
    | (refine ⟨?_, by omega⟩)
    | (refine ⟨fun hc => ?_, fun hc => ?_⟩ <;> (try (exfalso; omega)))
    | (refine V_cond rfl (fun hc => ?_) (fun hc => ?_) <;> (try simp [hl] at hc) <;> (try (exfalso; omega)))
    | (intro hc <;> (try (exfalso; omega))))
  refine V_len (x := 34) rfl fun hsl => ?_
  simp at hsl
  refine V_loopF (α := { i : Nat // i ≤ st.length ∧ st.take i = st'.take i }) [2, 3] (fun i => [(5, .u (.int .i64 i.1))]) (fun i => st.length - i.1) ⟨0, by omega, by simp⟩ ?_ ?_
  · exact (Wk.env rfl rfl rfl (by simp [wkE, St.lp, keepE, getK_cons, getK] <;> (try (intros; simp_all; done)) <;> (try (intros; omega)) <;> (try grind)))
  rintro ⟨i, hi, hb⟩
  simp [St.lp, St.only, keepE, getK_cons, getK]
  rcases hx : st[i]? with _ | n
  · have hge : st.length ≤ i := by simpa using hx
    repeat' (first
    | (refine H_cons ?_; simp [hx])
    | (refine H_nil ?_)
    | (refine HD_nil ?_)
    | (refine HD_cons ?_; simp [hx])
    | (refine HD_guardU rfl (by simp [hx]) ?_; simp [hx])
    | (refine HD_guard rfl (by simp [hx]) (fun hc => ?_) (fun hc => ?_) <;> (try simp [hx] at hc) <;> (try (exfalso; omega)) <;> (try simp [hx]))
    | (refine V_seq ?_)
    | (refine V_region1 fun k hk => ?_; simp [hx])
    | (refine V_drawV rfl (by kernel_rfl) (by kernel_rfl) fun k hk => ?_; simp [hx])
    | (refine V_drawE rfl (by kernel_rfl) (by kernel_rfl) (by simp [hn]) fun C k hC hk => ?_; simp [hx])
    | (refine HD2_nil (hC _ (by kernel_rfl)) (hk _ ?_); clear hC hk C k)
    | (refine HD2_val rfl ?_; simp [hx])
    | (refine HD2_chg rfl ?_; simp [hx])
    | (refine HD2_guardU rfl (by simp [hx]) ?_; simp [hx])
    | (refine HD2_guard rfl (by simp [hx]) (fun hc => ?_) (fun hc => ?_) <;> (try simp [hx] at hc) <;> (try (exfalso; omega)) <;> (try simp [hx]))
    | (refine V_block ?_)
        | (refine V_ret ?_)
    | (refine V_exit ?_)
    | (refine V_skip ?_)
    | (refine R_seq ?_)
    | (refine R_seq_ret ?_)
    | (refine R_seq_exit ?_)
    | (refine R_blk_ret ?_)
    | (refine R_blk ?_)
    | (refine R_blk_exit ?_)
    | (refine R_blk_other (by decide) ?_)
    | (refine R_loop_ret ?_)
    | (refine R_loop_exit ?_)
    | (refine R_loop ?_)
    | (refine R_done ?_)
    | (refine hk _ ?_; clear hk k)
    | (refine ⟨by omega, ?_⟩)
    | (refine ⟨?_, by omega⟩)
    | (refine ⟨fun hc => ?_, fun hc => ?_⟩ <;> (try (exfalso; omega)))
    | (refine V_cond rfl (fun hc => ?_) (fun hc => ?_) <;> (try simp [hx] at hc) <;> (try (exfalso; omega)))
    | (intro hc <;> (try (exfalso; omega))))
    (refine EndOK.val (.inr rfl) ?_; simp [resD, oneOrTup, pureD, Try.results16])
    rwa [List.take_of_length_le hge, List.take_of_length_le (by omega)] at hb
  · have hlt := (List.getElem?_eq_some_iff.1 hx).1
    obtain ⟨n', hx'⟩ : ∃ n', st'[i]? = some n' := ⟨st'[i]'(by omega), List.getElem?_eq_getElem _⟩
    have hs1 : st.take (i + 1) = st.take i ++ [n] := by rw [List.take_succ_eq_append_getElem hlt, (List.getElem?_eq_some_iff.1 hx).2]
    have hs2 : st'.take (i + 1) = st'.take i ++ [n'] := by rw [List.take_succ_eq_append_getElem (by omega), (List.getElem?_eq_some_iff.1 hx').2]
    by_cases hnn : n = n'
    · subst hnn
      repeat' (first
    | (refine H_cons ?_; simp [hx, hx', hl])
    | (refine H_nil ?_)
    | (refine HD_nil ?_)
    | (refine HD_cons ?_; simp [hx, hx', hl])
    | (refine HD_guardU rfl (by simp [hx, hx', hl]) ?_; simp [hx, hx', hl])
    | (refine HD_guard rfl (by simp [hx, hx', hl]) (fun hc => ?_) (fun hc => ?_) <;> (try simp [hx, hx', hl] at hc) <;> (try (exfalso; omega)) <;> (try simp [hx, hx', hl]))
    | (refine V_seq ?_)
    | (refine V_region1 fun k hk => ?_; simp [hx, hx', hl])
    | (refine V_drawV rfl (by kernel_rfl) (by kernel_rfl) fun k hk => ?_; simp [hx, hx', hl])
    | (refine V_drawE rfl (by kernel_rfl) (by kernel_rfl) (by simp [hn]) fun C k hC hk => ?_; simp [hx, hx', hl])
    | (refine HD2_nil (hC _ (by kernel_rfl)) (hk _ ?_); clear hC hk C k)
    | (refine HD2_val rfl ?_; simp [hx, hx', hl])
    | (refine HD2_chg rfl ?_; simp [hx, hx', hl])
    | (refine HD2_guardU rfl (by simp [hx, hx', hl]) ?_; simp [hx, hx', hl])
    | (refine HD2_guard rfl (by simp [hx, hx', hl]) (fun hc => ?_) (fun hc => ?_) <;> (try simp [hx, hx', hl] at hc) <;> (try (exfalso; omega)) <;> (try simp [hx, hx', hl]))
    | (refine V_block ?_)
        | (refine V_ret ?_)
    | (refine V_exit ?_)
    | (refine V_skip ?_)
    | (refine R_seq ?_)
    | (refine R_seq_ret ?_)
    | (refine R_seq_exit ?_)
    | (refine R_blk_ret ?_)
    | (refine R_blk ?_)
    | (refine R_blk_exit ?_)
    | (refine R_blk_other (by decide) ?_)
    | (refine R_loop_ret ?_)
    | (refine R_loop_exit ?_)
    | (refine R_loop ?_)
    | (refine R_done ?_)
    | (refine hk _ ?_; clear hk k)
    | (refine ⟨by omega, ?_⟩)
    | (refine ⟨?_, by omega⟩)
    | (refine ⟨fun hc => ?_, fun hc => ?_⟩ <;> (try (exfalso; omega)))
    | (refine V_cond rfl (fun hc => ?_) (fun hc => ?_) <;> (try simp [hx, hx', hl] at hc) <;> (try (exfalso; omega)))
    | (intro hc <;> (try (exfalso; omega))))
      refine LoopW.next ⟨i + 1, by omega, by rw [hs1, hs2, hb]⟩ (by simp; omega) ?_
      exact (Wk.env rfl rfl rfl (by simp [wkE, St.lp, keepE, getK_cons, getK] <;> (try (intros; simp_all; done)) <;> (try (intros; omega)) <;> (try grind)))
    · repeat' (first
    | (refine H_cons ?_; simp [hx, hx', hl, hnn])
    | (refine H_nil ?_)
    | (refine HD_nil ?_)
    | (refine HD_cons ?_; simp [hx, hx', hl, hnn])
    | (refine HD_guardU rfl (by simp [hx, hx', hl, hnn]) ?_; simp [hx, hx', hl, hnn])
    | (refine HD_guard rfl (by simp [hx, hx', hl, hnn]) (fun hc => ?_) (fun hc => ?_) <;> (try simp [hx, hx', hl, hnn] at hc) <;> (try (exfalso; omega)) <;> (try simp [hx, hx', hl, hnn]))
    | (refine V_seq ?_)
    | (refine V_region1 fun k hk => ?_; simp [hx, hx', hl, hnn])
    | (refine V_drawV rfl (by kernel_rfl) (by kernel_rfl) fun k hk => ?_; simp [hx, hx', hl, hnn])
    | (refine V_drawE rfl (by kernel_rfl) (by kernel_rfl) (by simp [hn]) fun C k hC hk => ?_; simp [hx, hx', hl, hnn])
    | (refine HD2_nil (hC _ (by kernel_rfl)) (hk _ ?_); clear hC hk C k)
    | (refine HD2_val rfl ?_; simp [hx, hx', hl, hnn])
    | (refine HD2_chg rfl ?_; simp [hx, hx', hl, hnn])
    | (refine HD2_guardU rfl (by simp [hx, hx', hl, hnn]) ?_; simp [hx, hx', hl, hnn])
    | (refine HD2_guard rfl (by simp [hx, hx', hl, hnn]) (fun hc => ?_) (fun hc => ?_) <;> (try simp [hx, hx', hl, hnn] at hc) <;> (try (exfalso; omega)) <;> (try simp [hx, hx', hl, hnn]))
    | (refine V_block ?_)
        | (refine V_ret ?_)
    | (refine V_exit ?_)
    | (refine V_skip ?_)
    | (refine R_seq ?_)
    | (refine R_seq_ret ?_)
    | (refine R_seq_exit ?_)
    | (refine R_blk_ret ?_)
    | (refine R_blk ?_)
    | (refine R_blk_exit ?_)
    | (refine R_blk_other (by decide) ?_)
    | (refine R_loop_ret ?_)
    | (refine R_loop_exit ?_)
    | (refine R_loop ?_)
    | (refine R_done ?_)
    | (refine hk _ ?_; clear hk k)
    | (refine ⟨by omega, ?_⟩)
    | (refine ⟨?_, by omega⟩)
    | (refine ⟨fun hc => ?_, fun hc => ?_⟩ <;> (try (exfalso; omega)))
    | (refine V_cond rfl (fun hc => ?_) (fun hc => ?_) <;> (try simp [hx, hx', hl, hnn] at hc) <;> (try (exfalso; omega)))
    | (intro hc <;> (try (exfalso; omega))))
      (refine EndOK.val (.inr rfl) ?_; simp [resD, oneOrTup, pureD, Try.results16])
      intro e
      subst e
      rw [hx] at hx'
      exact hnn (Option.some.inj hx')
theorem same_fun (a b : Mach) : Fun Try.prog 10 [.u (magg a), .u (magg b)] (· = .u (.bool (decide (a = b)))) := by
  have hs := Same_fun a b
  (refine Fun.of_body Try.func10 rfl (by simp) fun Γ hn => ?_); simp only [entry, List.zipIdx_cons, List.zipIdx_nil, List.map_cons, List.map_nil, Nat.zero_add, Try.ntmps10]
  simp only [magg, ints] at hs ⊢
  repeat' (first
    | (first | (refine CallV.fun_ (hs) (by rfl) (by first | assumption | (simp; done) | fail) (by first | (simp; done) | (simp; rfl)) (by first | (simp; done) | fail) ?_ <;> (try simp)) | (refine CallP.fun_ (hs) (by rfl) (by first | assumption | (simp; done) | fail) (by first | (simp; done) | (simp; rfl)) (by first | (simp; done) | fail) (fun d hd => ?_); subst hd; (try simp)))
    | (refine H_cons ?_; simp)
    | (refine H_nil ?_)
    | (refine HD_nil ?_)
    | (refine HD_cons ?_; simp)
    | (refine HD_guardU rfl (by simp) ?_; simp)
    | (refine HD_guard rfl (by simp) (fun hc => ?_) (fun hc => ?_) <;> (try simp at hc) <;> (try (exfalso; omega)) <;> (try simp))
    | (refine V_seq ?_)
    | (refine V_region1 fun k hk => ?_; simp)
    | (refine V_drawV rfl (by kernel_rfl) (by kernel_rfl) fun k hk => ?_; simp)
    | (refine V_drawE rfl (by kernel_rfl) (by kernel_rfl) (by simp [hn]) fun C k hC hk => ?_; simp)
    | (refine HD2_nil (hC _ (by kernel_rfl)) (hk _ ?_); clear hC hk C k)
    | (refine HD2_val rfl ?_; simp)
    | (refine HD2_chg rfl ?_; simp)
    | (refine HD2_guardU rfl (by simp) ?_; simp)
    | (refine HD2_guard rfl (by simp) (fun hc => ?_) (fun hc => ?_) <;> (try simp at hc) <;> (try (exfalso; omega)) <;> (try simp))
    | (refine V_block ?_)
        | (refine V_ret ?_)
    | (refine V_exit ?_)
    | (refine V_skip ?_)
    | (refine R_seq ?_)
    | (refine R_seq_ret ?_)
    | (refine R_seq_exit ?_)
    | (refine R_blk_ret ?_)
    | (refine R_blk ?_)
    | (refine R_blk_exit ?_)
    | (refine R_blk_other (by decide) ?_)
    | (refine R_loop_ret ?_)
    | (refine R_loop_exit ?_)
    | (refine R_loop ?_)
    | (refine R_done ?_)
    | (refine hk _ ?_; clear hk k)
    | (refine ⟨by omega, ?_⟩)
    | (refine ⟨?_, by omega⟩)
    | (refine ⟨fun hc => ?_, fun hc => ?_⟩ <;> (try (exfalso; omega)))
    | (refine V_cond rfl (fun hc => ?_) (fun hc => ?_) <;> (try simp at hc) <;> (try (exfalso; omega)))
    | (intro hc <;> (try (exfalso; omega))))
  (refine EndOK.val (.inr rfl) ?_; simp [resD, oneOrTup, pureD, Try.results10])
set_option maxHeartbeats 4000000 in
theorem tells_fun (l : List Ins) (vs : List Var) (m : Mach) (fuel : Int) : Fun Try.prog 4 [.u (inss l), .u (vars vs), .u (magg m), .u (.int .i64 fuel)] (· = .u (.bool true)) := by
  have hf := few_fun l vs 60
  have hr1 := run_fun l vs fuel
  by_cases hfew : few l vs 60 = true ∧ m.stack.length ≤ 60 ∧ fuel ≤ 3000
  case neg =>
    cases hfw : few l vs 60 with
    | false =>
      rw [hfw] at hf
      (refine Fun.of_body Try.func4 rfl (by simp) fun Γ hn => ?_); simp only [entry, List.zipIdx_cons, List.zipIdx_nil, List.map_cons, List.map_nil, Nat.zero_add, Try.ntmps4]
      simp only [inss, vars, magg, ints] at hf ⊢
      repeat' (first
    | (first | (refine CallV.fun_ (small_fun) (by rfl) (by first | assumption | (simp; done) | fail) (by first | (simp; done) | (simp; rfl)) (by first | (simp; done) | fail) ?_ <;> (try simp)) | (refine CallP.fun_ (small_fun) (by rfl) (by first | assumption | (simp; done) | fail) (by first | (simp; done) | (simp; rfl)) (by first | (simp; done) | fail) (fun d hd => ?_); subst hd; (try simp)))
    | (first | (refine CallV.fun_ (hf) (by rfl) (by first | assumption | (simp; done) | fail) (by first | (simp; done) | (simp; rfl)) (by first | (simp; done) | fail) ?_ <;> (try simp)) | (refine CallP.fun_ (hf) (by rfl) (by first | assumption | (simp; done) | fail) (by first | (simp; done) | (simp; rfl)) (by first | (simp; done) | fail) (fun d hd => ?_); subst hd; (try simp)))
    | (refine H_cons ?_; simp)
    | (refine H_nil ?_)
    | (refine HD_nil ?_)
    | (refine HD_cons ?_; simp)
    | (refine HD_guardU rfl (by simp) ?_; simp)
    | (refine HD_guard rfl (by simp) (fun hc => ?_) (fun hc => ?_) <;> (try simp at hc) <;> (try (exfalso; omega)) <;> (try simp))
    | (refine V_seq ?_)
    | (refine V_region1 fun k hk => ?_; simp)
    | (refine V_drawV rfl (by kernel_rfl) (by kernel_rfl) fun k hk => ?_; simp)
    | (refine V_drawE rfl (by kernel_rfl) (by kernel_rfl) (by simp [hn]) fun C k hC hk => ?_; simp)
    | (refine HD2_nil (hC _ (by kernel_rfl)) (hk _ ?_); clear hC hk C k)
    | (refine HD2_val rfl ?_; simp)
    | (refine HD2_chg rfl ?_; simp)
    | (refine HD2_guardU rfl (by simp) ?_; simp)
    | (refine HD2_guard rfl (by simp) (fun hc => ?_) (fun hc => ?_) <;> (try simp at hc) <;> (try (exfalso; omega)) <;> (try simp))
    | (refine V_block ?_)
        | (refine V_ret ?_)
    | (refine V_exit ?_)
    | (refine V_skip ?_)
    | (refine R_seq ?_)
    | (refine R_seq_ret ?_)
    | (refine R_seq_exit ?_)
    | (refine R_blk_ret ?_)
    | (refine R_blk ?_)
    | (refine R_blk_exit ?_)
    | (refine R_blk_other (by decide) ?_)
    | (refine R_loop_ret ?_)
    | (refine R_loop_exit ?_)
    | (refine R_loop ?_)
    | (refine R_done ?_)
    | (refine hk _ ?_; clear hk k)
    | (refine ⟨by omega, ?_⟩)
    | (refine ⟨?_, by omega⟩)
    | (refine ⟨fun hc => ?_, fun hc => ?_⟩ <;> (try (exfalso; omega)))
    | (refine V_cond rfl (fun hc => ?_) (fun hc => ?_) <;> (try simp at hc) <;> (try (exfalso; omega)))
    | (intro hc <;> (try (exfalso; omega))))
      (refine EndOK.val (.inr rfl) ?_; simp [resD, oneOrTup, pureD, Try.results4])
    | true =>
      rw [hfw] at hf hfew
      simp only [true_and] at hfew
      (refine Fun.of_body Try.func4 rfl (by simp) fun Γ hn => ?_); simp only [entry, List.zipIdx_cons, List.zipIdx_nil, List.map_cons, List.map_nil, Nat.zero_add, Try.ntmps4]
      simp only [inss, vars, magg, ints] at hf ⊢
      repeat' (first
    | (first | (refine CallV.fun_ (small_fun) (by rfl) (by first | assumption | (simp; done) | fail) (by first | (simp; done) | (simp; rfl)) (by first | (simp; done) | fail) ?_ <;> (try simp)) | (refine CallP.fun_ (small_fun) (by rfl) (by first | assumption | (simp; done) | fail) (by first | (simp; done) | (simp; rfl)) (by first | (simp; done) | fail) (fun d hd => ?_); subst hd; (try simp)))
    | (first | (refine CallV.fun_ (hf) (by rfl) (by first | assumption | (simp; done) | fail) (by first | (simp; done) | (simp; rfl)) (by first | (simp; done) | fail) ?_ <;> (try simp)) | (refine CallP.fun_ (hf) (by rfl) (by first | assumption | (simp; done) | fail) (by first | (simp; done) | (simp; rfl)) (by first | (simp; done) | fail) (fun d hd => ?_); subst hd; (try simp)))
    | (refine H_cons ?_; simp)
    | (refine H_nil ?_)
    | (refine HD_nil ?_)
    | (refine HD_cons ?_; simp)
    | (refine HD_guardU rfl (by simp) ?_; simp)
    | (refine HD_guard rfl (by simp) (fun hc => ?_) (fun hc => ?_) <;> (try simp at hc) <;> (try (exfalso; omega)) <;> (try simp))
    | (refine V_seq ?_)
    | (refine V_region1 fun k hk => ?_; simp)
    | (refine V_drawV rfl (by kernel_rfl) (by kernel_rfl) fun k hk => ?_; simp)
    | (refine V_drawE rfl (by kernel_rfl) (by kernel_rfl) (by simp [hn]) fun C k hC hk => ?_; simp)
    | (refine HD2_nil (hC _ (by kernel_rfl)) (hk _ ?_); clear hC hk C k)
    | (refine HD2_val rfl ?_; simp)
    | (refine HD2_chg rfl ?_; simp)
    | (refine HD2_guardU rfl (by simp) ?_; simp)
    | (refine HD2_guard rfl (by simp) (fun hc => ?_) (fun hc => ?_) <;> (try simp at hc) <;> (try (exfalso; omega)) <;> (try simp))
    | (refine V_block ?_)
        | (refine V_ret ?_)
    | (refine V_exit ?_)
    | (refine V_skip ?_)
    | (refine R_seq ?_)
    | (refine R_seq_ret ?_)
    | (refine R_seq_exit ?_)
    | (refine R_blk_ret ?_)
    | (refine R_blk ?_)
    | (refine R_blk_exit ?_)
    | (refine R_blk_other (by decide) ?_)
    | (refine R_loop_ret ?_)
    | (refine R_loop_exit ?_)
    | (refine R_loop ?_)
    | (refine R_done ?_)
    | (refine hk _ ?_; clear hk k)
    | (refine ⟨by omega, ?_⟩)
    | (refine ⟨?_, by omega⟩)
    | (refine ⟨fun hc => ?_, fun hc => ?_⟩ <;> (try (exfalso; omega)))
    | (refine V_cond rfl (fun hc => ?_) (fun hc => ?_) <;> (try simp at hc) <;> (try (exfalso; omega)))
    | (intro hc <;> (try (exfalso; omega))))
      all_goals
        try (refine EndOK.val (.inr rfl) ?_; simp [resD, oneOrTup, pureD, Try.results4])
      all_goals
        exfalso
        omega
  obtain ⟨hf0, hf1, hf2⟩ := hfew
  rw [hf0] at hf
  have hr2 := rrun_fun l vs fuel hf2
  have h1 := step_fun l vs m (by omega)
  have h2 := rstep_fun l vs m (by omega)
  have h3 := machine_fun m
  have h4 := same_fun (stepV l vs m) (stepV l vs m)
  rw [show decide (stepV l vs m = stepV l vs m) = true by simp] at h4
  generalize runM l vs fuel = r at *
  generalize stepV l vs m = m' at *
  (refine Fun.of_body Try.func4 rfl (by simp) fun Γ hn => ?_); simp only [entry, List.zipIdx_cons, List.zipIdx_nil, List.map_cons, List.map_nil, Nat.zero_add, Try.ntmps4]
  simp only [StepR, inss, vars, magg, ints] at hf hr1 hr2 h1 h2 h3 h4 ⊢
  repeat' (first
    | (first | (refine CallV.fun_ (small_fun) (by rfl) (by first | assumption | (simp; done) | fail) (by first | (simp; done) | (simp; rfl)) (by first | (simp; done) | fail) ?_ <;> (try simp)) | (refine CallP.fun_ (small_fun) (by rfl) (by first | assumption | (simp; done) | fail) (by first | (simp; done) | (simp; rfl)) (by first | (simp; done) | fail) (fun d hd => ?_); subst hd; (try simp)))
    | (first | (refine CallV.fun_ (hf) (by rfl) (by first | assumption | (simp; done) | fail) (by first | (simp; done) | (simp; rfl)) (by first | (simp; done) | fail) ?_ <;> (try simp)) | (refine CallP.fun_ (hf) (by rfl) (by first | assumption | (simp; done) | fail) (by first | (simp; done) | (simp; rfl)) (by first | (simp; done) | fail) (fun d hd => ?_); subst hd; (try simp)))
    | (first | (refine CallV.fun_ (hr1) (by rfl) (by first | assumption | (simp; done) | fail) (by first | (simp; done) | (simp; rfl)) (by first | (simp; done) | fail) ?_ <;> (try simp)) | (refine CallP.fun_ (hr1) (by rfl) (by first | assumption | (simp; done) | fail) (by first | (simp; done) | (simp; rfl)) (by first | (simp; done) | fail) (fun d hd => ?_); subst hd; (try simp)))
    | (first | (refine CallV.fun_ (hr2) (by rfl) (by first | assumption | (simp; done) | fail) (by first | (simp; done) | (simp; rfl)) (by first | (simp; done) | fail) ?_ <;> (try simp)) | (refine CallP.fun_ (hr2) (by rfl) (by first | assumption | (simp; done) | fail) (by first | (simp; done) | (simp; rfl)) (by first | (simp; done) | fail) (fun d hd => ?_); subst hd; (try simp)))
    | (first | (refine CallV.fun_ (h1) (by rfl) (by first | assumption | (simp; done) | fail) (by first | (simp; done) | (simp; rfl)) (by first | (simp; done) | fail) ?_ <;> (try simp)) | (refine CallP.fun_ (h1) (by rfl) (by first | assumption | (simp; done) | fail) (by first | (simp; done) | (simp; rfl)) (by first | (simp; done) | fail) (fun d hd => ?_); subst hd; (try simp)))
    | (first | (refine CallV.fun_ (h2) (by rfl) (by first | assumption | (simp; done) | fail) (by first | (simp; done) | (simp; rfl)) (by first | (simp; done) | fail) ?_ <;> (try simp)) | (refine CallP.fun_ (h2) (by rfl) (by first | assumption | (simp; done) | fail) (by first | (simp; done) | (simp; rfl)) (by first | (simp; done) | fail) (fun d hd => ?_); subst hd; (try simp)))
    | (first | (refine CallV.fun_ (h3) (by rfl) (by first | assumption | (simp; done) | fail) (by first | (simp; done) | (simp; rfl)) (by first | (simp; done) | fail) ?_ <;> (try simp)) | (refine CallP.fun_ (h3) (by rfl) (by first | assumption | (simp; done) | fail) (by first | (simp; done) | (simp; rfl)) (by first | (simp; done) | fail) (fun d hd => ?_); subst hd; (try simp)))
    | (first | (refine CallV.fun_ (h4) (by rfl) (by first | assumption | (simp; done) | fail) (by first | (simp; done) | (simp; rfl)) (by first | (simp; done) | fail) ?_ <;> (try simp)) | (refine CallP.fun_ (h4) (by rfl) (by first | assumption | (simp; done) | fail) (by first | (simp; done) | (simp; rfl)) (by first | (simp; done) | fail) (fun d hd => ?_); subst hd; (try simp)))
    | (refine H_cons ?_; simp)
    | (refine H_nil ?_)
    | (refine HD_nil ?_)
    | (refine HD_cons ?_; simp)
    | (refine HD_guardU rfl (by simp) ?_; simp)
    | (refine HD_guard rfl (by simp) (fun hc => ?_) (fun hc => ?_) <;> (try simp at hc) <;> (try (exfalso; omega)) <;> (try simp))
    | (refine V_seq ?_)
    | (refine V_region1 fun k hk => ?_; simp)
    | (refine V_drawV rfl (by kernel_rfl) (by kernel_rfl) fun k hk => ?_; simp)
    | (refine V_drawE rfl (by kernel_rfl) (by kernel_rfl) (by simp [hn]) fun C k hC hk => ?_; simp)
    | (refine HD2_nil (hC _ (by kernel_rfl)) (hk _ ?_); clear hC hk C k)
    | (refine HD2_val rfl ?_; simp)
    | (refine HD2_chg rfl ?_; simp)
    | (refine HD2_guardU rfl (by simp) ?_; simp)
    | (refine HD2_guard rfl (by simp) (fun hc => ?_) (fun hc => ?_) <;> (try simp at hc) <;> (try (exfalso; omega)) <;> (try simp))
    | (refine V_block ?_)
        | (refine V_ret ?_)
    | (refine V_exit ?_)
    | (refine V_skip ?_)
    | (refine R_seq ?_)
    | (refine R_seq_ret ?_)
    | (refine R_seq_exit ?_)
    | (refine R_blk_ret ?_)
    | (refine R_blk ?_)
    | (refine R_blk_exit ?_)
    | (refine R_blk_other (by decide) ?_)
    | (refine R_loop_ret ?_)
    | (refine R_loop_exit ?_)
    | (refine R_loop ?_)
    | (refine R_done ?_)
    | (refine hk _ ?_; clear hk k)
    | (refine ⟨by omega, ?_⟩)
    | (refine ⟨?_, by omega⟩)
    | (refine ⟨fun hc => ?_, fun hc => ?_⟩ <;> (try (exfalso; omega)))
    | (refine V_cond rfl (fun hc => ?_) (fun hc => ?_) <;> (try simp at hc) <;> (try (exfalso; omega)))
    | (intro hc <;> (try (exfalso; omega))))
  all_goals
    (refine EndOK.val (.inr rfl) ?_; simp [resD, oneOrTup, pureD, Try.results4])
open Go.ChangeShapes Go.WideShapes Go.ChangeAt Go.RowKit
theorem mach_of {r : List U} (h : HasRow Try.prog 36 r) : ∃ m : Mach, U.agg r = magg m := by
  obtain ⟨rs, hr, h⟩ := h.of_struct sf36
  match rs, h with
  | [a, b, c, d, e], h =>
    obtain ⟨h1, h2, h3, h4, h5, _⟩ := h
    obtain ⟨x, rfl, _⟩ := h1.of_int io3
    obtain ⟨rows, rfl, _, hq⟩ := h2.of_slice es34
    obtain ⟨y, rfl⟩ := h3.of_bool ub4
    obtain ⟨z, rfl, _⟩ := h4.of_int io3
    obtain ⟨w, rfl, _⟩ := h5.of_int io28
    obtain ⟨l, rfl, _⟩ := rows_list (fun n => [U.int .i64 n]) (fun _ => True) fun r hr => by
      obtain ⟨n, hn, _⟩ := (hq r hr).of_int io3
      exact ⟨n, hn, trivial⟩
    exact ⟨⟨x, l, y, z, w⟩, by rw [hr]; rfl⟩
set_option maxRecDepth 100000 in
theorem tells_lifted (os : Os) (started : os.Started) (H : Type) (enc : TypeId × Value → H) :
    ReturnsInHanded {} Try.checked os 4 .any (Rows.vmTellsSpec.pre6 enc Try.prog Try.f4 Rows.vmTellsRow.domain false) (Rows.vmTellsSpec.post enc Try.prog Try.f4 false true false false) := by
  refine law_lifted (tb := 4) Try.own started (by kernel_rfl) Try.func4
    (ChangeSpec.witness6 (enc := enc) (C := Try.checked) false ⟨#[], #[.slice none 0 0, .slice none 0 0, .agg #[.int .i64 0, .slice none 0 0, .bool false, .int .i64 0, .int .i64 0], .int .i64 0], []⟩ 8 (by kernel_rfl) (by kernel_rfl) (by kernel_rfl) (by kernel_rfl))
    Try.laidOut Try.seqs (by kernel_rfl) rfl (fun ds h => ?_) (by kernel_rfl) (by kernel_rfl) (fun us h => ?_)
  · match ds, h with
    | [_, _, _, _], _ => rfl
  · match us, h with
    | [a, b, c, d], h =>
      obtain ⟨h1, h2, h3, h4, _⟩ := h
      obtain ⟨l, rfl⟩ := inss_of h1
      obtain ⟨vs, rfl⟩ := vars_of h2
      obtain ⟨r, rfl, h3r⟩ := h3.agg sf36
      obtain ⟨m, hm⟩ := mach_of h3r
      rw [hm]
      obtain ⟨fuel, rfl⟩ := int_of h4
      exact tells_fun l vs m fuel
theorem tells_holds : Rows.VmTellsSaid :=
  OpenClaim.holds_of_wide 4 Try.f4 rfl rfl rfl rfl rfl rfl rfl ⟨rfl, rfl, rfl, rfl, rfl⟩ rfl rfl rfl rfl rfl (by kernel_rfl) Try.func4 (by kernel_rfl)
    (of_decide_eq_true (by kernel_rfl)) (by unfold Func.isWrapper; first | (rw [if_pos (by decide +kernel)]; kernel_rfl) | (rw [if_neg (by decide +kernel)]; exact ⟨rfl, rfl⟩))
    (fun os started H enc _ => tells_lifted os started H enc)
end Go.Proofs.Ytblmompdcammeaa
