/- The law on names: the walk. -/
import Derived.Test.YtblmompdcammeaaWr
set_option linter.all false
namespace Go.Proofs.Ytblmompdcammeaa
open Go Go.VL
attribute [local simp] hcons hstep evPure opd uOf putOK St.put St.at getK binD binI binS binB nilD aggD eqUs cmpK shiftI arith unD convD pickD loadD cellsAt fieldAddrD fieldD indexAddrD indexD sliceD cutD lenD minmaxD nilCheckD buildD fillD cellsD isOne ones setAll mkAgg allU allocD boxD storeD St.add buildSliceD appendD rowsOf makeD setOb getK_setOb getK_del getK_cons stripL strip guardTmp entry chunks zcells valD argsV argsW argW argU1 argU0 argsU0 argsU1 calleeOf scalarD scalarU delAll effD St.effS applyW mkD rdIds lentIds callOf calleeOf freeOp D.ids Op.operands Call.operands isEffOp IntKind.bits allU2 allU2_append List.take_of_length_le List.range_succ
attribute [local irreducible] V G H HD HD2 RunK Eff CallP CallV EndOK Fun Ret FinOK LoopI LoopW EndW
set_option maxHeartbeats 8000000 in
theorem names_fun (l : List Ins) (vs : List Var) (one : Var) (by_ fuel : Int) : Fun Try.prog 3 [.u (inss l), .u (vars vs), vagg one, .u (.int .i64 by_), .u (.int .i64 fuel)] (· = .u (.bool true)) := by
  have hf := few_fun l vs 60
  have hr1 := run_fun l vs fuel
  have hr2 := run_fun l (vs ++ [one]) fuel
  have hr3 := run_fun l (vs.drop by_.toNat ++ vs.take by_.toNat) fuel
  (refine Fun.of_body Try.func3 rfl (by simp) fun Γ hn => ?_); simp only [entry, List.zipIdx_cons, List.zipIdx_nil, List.map_cons, List.map_nil, Nat.zero_add, Try.ntmps3]
  simp only [inss, vars, vagg, Var.row] at hf hr1 hr2 hr3 ⊢
  refine V_len (x := 0) rfl fun hl => ?_
  refine V_len (x := 1) rfl fun hl1 => ?_
  simp at hl hl1
  by_cases hfew : few l vs 60 = true ∧ vs.length ≤ 10 ∧ one.name.length ≤ 60 ∧ 0 ≤ fuel ∧ fuel ≤ 2000 ∧ 0 ≤ by_ ∧ by_ ≤ vs.length
  case neg =>
    cases hfw : few l vs 60 with
    | false =>
      rw [hfw] at hf
      repeat' (first
    | (first | (refine CallV.fun_ (small_fun) (by rfl) (by first | assumption | (simp; done) | fail) (by first | (simp; done) | (simp; rfl)) (by first | (simp; done) | fail) ?_ <;> (try simp)) | (refine CallP.fun_ (small_fun) (by rfl) (by first | assumption | (simp; done) | fail) (by first | (simp; done) | (simp; rfl)) (by first | (simp; done) | fail) (fun d hd => ?_); subst hd; (try simp)))
    | (first | (refine CallV.fun_ (hf) (by rfl) (by first | assumption | (simp; done) | fail) (by first | (simp; done) | (simp; rfl)) (by first | (simp; done) | fail) ?_ <;> (try simp)) | (refine CallP.fun_ (hf) (by rfl) (by first | assumption | (simp; done) | fail) (by first | (simp; done) | (simp; rfl)) (by first | (simp; done) | fail) (fun d hd => ?_); subst hd; (try simp)))
    | (refine H_cons ?_; simp)
    | (refine H_nil ?_)
    | (refine HD_nil ?_)
    | (refine HD_cons ?_; simp)
    | (refine HD_guardU rfl (by simp) ?_; simp)
    | (refine HD_guard rfl (by simp) (fun hc => ?_) (fun hc => ?_) <;> (try simp at hc) <;> (try (exfalso; omega)) <;> (try simp))
    | (refine V_seq ?_)
    | (refine V_region1 fun k hk => ?_; simp)
    | (refine V_drawV rfl (by kernel_rfl) (by kernel_rfl) fun k hk => ?_; simp)
    | (refine V_drawE rfl (by kernel_rfl) (by kernel_rfl) (by simp [hn]) fun C k hC hk => ?_; simp)
    | (refine HD2_nil (hC _ (by kernel_rfl)) (hk _ ?_); clear hC hk C k)
    | (refine HD2_val rfl ?_; simp)
    | (refine HD2_chg rfl ?_; simp)
    | (refine HD2_guardU rfl (by simp) ?_; simp)
    | (refine HD2_guard rfl (by simp) (fun hc => ?_) (fun hc => ?_) <;> (try simp at hc) <;> (try (exfalso; omega)) <;> (try simp))
    | (refine V_block ?_)
        | (refine V_ret ?_)
    | (refine V_exit ?_)
    | (refine V_skip ?_)
    | (refine R_seq ?_)
    | (refine R_seq_ret ?_)
    | (refine R_seq_exit ?_)
    | (refine R_blk_ret ?_)
    | (refine R_blk ?_)
    | (refine R_blk_exit ?_)
    | (refine R_blk_other (by decide) ?_)
    | (refine R_loop_ret ?_)
    | (refine R_loop_exit ?_)
    | (refine R_loop ?_)
    | (refine R_done ?_)
    | (refine hk _ ?_; clear hk k)
    | (refine ⟨by omega, ?_⟩)
    | (refine ⟨?_, by omega⟩)
    | (refine ⟨fun hc => ?_, fun hc => ?_⟩ <;> (try (exfalso; omega)))
    | (refine V_cond rfl (fun hc => ?_) (fun hc => ?_) <;> (try simp at hc) <;> (try (exfalso; omega)))
    | (intro hc <;> (try (exfalso; omega))))
      (refine EndOK.val (.inr rfl) ?_; simp [resD, oneOrTup, pureD, Try.results3])
    | true =>
      rw [hfw] at hf hfew
      simp only [true_and] at hfew
      repeat' (first
    | (first | (refine CallV.fun_ (small_fun) (by rfl) (by first | assumption | (simp; done) | fail) (by first | (simp; done) | (simp; rfl)) (by first | (simp; done) | fail) ?_ <;> (try simp)) | (refine CallP.fun_ (small_fun) (by rfl) (by first | assumption | (simp; done) | fail) (by first | (simp; done) | (simp; rfl)) (by first | (simp; done) | fail) (fun d hd => ?_); subst hd; (try simp)))
    | (first | (refine CallV.fun_ (hf) (by rfl) (by first | assumption | (simp; done) | fail) (by first | (simp; done) | (simp; rfl)) (by first | (simp; done) | fail) ?_ <;> (try simp)) | (refine CallP.fun_ (hf) (by rfl) (by first | assumption | (simp; done) | fail) (by first | (simp; done) | (simp; rfl)) (by first | (simp; done) | fail) (fun d hd => ?_); subst hd; (try simp)))
    | (refine H_cons ?_; simp)
    | (refine H_nil ?_)
    | (refine HD_nil ?_)
    | (refine HD_cons ?_; simp)
    | (refine HD_guardU rfl (by simp) ?_; simp)
    | (refine HD_guard rfl (by simp) (fun hc => ?_) (fun hc => ?_) <;> (try simp at hc) <;> (try (exfalso; omega)) <;> (try simp))
    | (refine V_seq ?_)
    | (refine V_region1 fun k hk => ?_; simp)
    | (refine V_drawV rfl (by kernel_rfl) (by kernel_rfl) fun k hk => ?_; simp)
    | (refine V_drawE rfl (by kernel_rfl) (by kernel_rfl) (by simp [hn]) fun C k hC hk => ?_; simp)
    | (refine HD2_nil (hC _ (by kernel_rfl)) (hk _ ?_); clear hC hk C k)
    | (refine HD2_val rfl ?_; simp)
    | (refine HD2_chg rfl ?_; simp)
    | (refine HD2_guardU rfl (by simp) ?_; simp)
    | (refine HD2_guard rfl (by simp) (fun hc => ?_) (fun hc => ?_) <;> (try simp at hc) <;> (try (exfalso; omega)) <;> (try simp))
    | (refine V_block ?_)
        | (refine V_ret ?_)
    | (refine V_exit ?_)
    | (refine V_skip ?_)
    | (refine R_seq ?_)
    | (refine R_seq_ret ?_)
    | (refine R_seq_exit ?_)
    | (refine R_blk_ret ?_)
    | (refine R_blk ?_)
    | (refine R_blk_exit ?_)
    | (refine R_blk_other (by decide) ?_)
    | (refine R_loop_ret ?_)
    | (refine R_loop_exit ?_)
    | (refine R_loop ?_)
    | (refine R_done ?_)
    | (refine hk _ ?_; clear hk k)
    | (refine ⟨by omega, ?_⟩)
    | (refine ⟨?_, by omega⟩)
    | (refine ⟨fun hc => ?_, fun hc => ?_⟩ <;> (try (exfalso; omega)))
    | (refine V_cond rfl (fun hc => ?_) (fun hc => ?_) <;> (try simp at hc) <;> (try (exfalso; omega)))
    | (intro hc <;> (try (exfalso; omega))))
      all_goals
        try (refine EndOK.val (.inr rfl) ?_; simp [resD, oneOrTup, pureD, Try.results3])
      all_goals
        exfalso
        omega
  obtain ⟨hf0, hf1, hf2, hf3, hf4, hf5, hf6⟩ := hfew
  rw [hf0] at hf
  repeat' (first
    | (first | (refine CallV.fun_ (small_fun) (by rfl) (by first | assumption | (simp; done) | fail) (by first | (simp; done) | (simp; rfl)) (by first | (simp; done) | fail) ?_ <;> (try simp)) | (refine CallP.fun_ (small_fun) (by rfl) (by first | assumption | (simp; done) | fail) (by first | (simp; done) | (simp; rfl)) (by first | (simp; done) | fail) (fun d hd => ?_); subst hd; (try simp)))
    | (first | (refine CallV.fun_ (hf) (by rfl) (by first | assumption | (simp; done) | fail) (by first | (simp; done) | (simp; rfl)) (by first | (simp; done) | fail) ?_ <;> (try simp)) | (refine CallP.fun_ (hf) (by rfl) (by first | assumption | (simp; done) | fail) (by first | (simp; done) | (simp; rfl)) (by first | (simp; done) | fail) (fun d hd => ?_); subst hd; (try simp)))
    | (first | (refine CallV.fun_ (hr1) (by rfl) (by first | assumption | (simp; done) | fail) (by first | (simp; done) | (simp; rfl)) (by first | (simp; done) | fail) ?_ <;> (try simp)) | (refine CallP.fun_ (hr1) (by rfl) (by first | assumption | (simp; done) | fail) (by first | (simp; done) | (simp; rfl)) (by first | (simp; done) | fail) (fun d hd => ?_); subst hd; (try simp)))
    | (refine H_cons ?_; simp)
    | (refine H_nil ?_)
    | (refine HD_nil ?_)
    | (refine HD_cons ?_; simp)
    | (refine HD_guardU rfl (by simp) ?_; simp)
    | (refine HD_guard rfl (by simp) (fun hc => ?_) (fun hc => ?_) <;> (try simp at hc) <;> (try (exfalso; omega)) <;> (try simp))
    | (refine V_seq ?_)
    | (refine V_region1 fun k hk => ?_; simp)
    | (refine V_drawV rfl (by kernel_rfl) (by kernel_rfl) fun k hk => ?_; simp)
    | (refine V_drawE rfl (by kernel_rfl) (by kernel_rfl) (by simp [hn]) fun C k hC hk => ?_; simp)
    | (refine HD2_nil (hC _ (by kernel_rfl)) (hk _ ?_); clear hC hk C k)
    | (refine HD2_val rfl ?_; simp)
    | (refine HD2_chg rfl ?_; simp)
    | (refine HD2_guardU rfl (by simp) ?_; simp)
    | (refine HD2_guard rfl (by simp) (fun hc => ?_) (fun hc => ?_) <;> (try simp at hc) <;> (try (exfalso; omega)) <;> (try simp))
    | (refine V_block ?_)
        | (refine V_ret ?_)
    | (refine V_exit ?_)
    | (refine V_skip ?_)
    | (refine R_seq ?_)
    | (refine R_seq_ret ?_)
    | (refine R_seq_exit ?_)
    | (refine R_blk_ret ?_)
    | (refine R_blk ?_)
    | (refine R_blk_exit ?_)
    | (refine R_blk_other (by decide) ?_)
    | (refine R_loop_ret ?_)
    | (refine R_loop_exit ?_)
    | (refine R_loop ?_)
    | (refine R_done ?_)
    | (refine hk _ ?_; clear hk k)
    | (refine ⟨by omega, ?_⟩)
    | (refine ⟨?_, by omega⟩)
    | (refine ⟨fun hc => ?_, fun hc => ?_⟩ <;> (try (exfalso; omega)))
    | (refine V_cond rfl (fun hc => ?_) (fun hc => ?_) <;> (try simp at hc) <;> (try (exfalso; omega)))
    | (intro hc <;> (try (exfalso; omega))))
  have r1 := run_more (code := l) (vs := vs) (one := one) (fuel := fuel)
  have r2 := run_turn (code := l) (vs := vs) (fuel := fuel) by_.toNat
  generalize runM l vs fuel = r at *
  -- the names among the instructions
  refine V_loopF (α := { i : Nat // i ≤ l.length }) [0, 1, 3, 4, 7, 11, 12, 13, 14, 16] (fun i => [(15, .u (.bool (idleA one.name (l.take i.1)))), (17, .u (.int .i64 i.1))]) (fun i => l.length - i.1) ⟨0, by omega⟩ ?_ ?_
  · exact (Wk.env rfl rfl rfl (by simp [wkE, St.lp, keepE, getK_cons, getK, idleA] <;> (try (intros; simp_all; done)) <;> (try (intros; omega)) <;> (try grind)))
  rintro ⟨i, hi⟩
  simp [St.lp, St.only, keepE, getK_cons, getK]
  rcases hx : l[i]? with _ | c
  case some =>
    have hlt := (List.getElem?_eq_some_iff.1 hx).1
    have hsn := idleA_snoc one.name (l.take i) c
    rw [show l.take i ++ [c] = l.take (i + 1) by rw [List.take_succ_eq_append_getElem hlt, (List.getElem?_eq_some_iff.1 hx).2]] at hsn
    repeat' (first
    | (refine H_cons ?_; simp [hx])
    | (refine H_nil ?_)
    | (refine HD_nil ?_)
    | (refine HD_cons ?_; simp [hx])
    | (refine HD_guardU rfl (by simp [hx]) ?_; simp [hx])
    | (refine HD_guard rfl (by simp [hx]) (fun hc => ?_) (fun hc => ?_) <;> (try simp [hx] at hc) <;> (try (exfalso; omega)) <;> (try simp [hx]))
    | (refine V_seq ?_)
    | (refine V_region1 fun k hk => ?_; simp [hx])
    | (refine V_drawV rfl (by kernel_rfl) (by kernel_rfl) fun k hk => ?_; simp [hx])
    | (refine V_drawE rfl (by kernel_rfl) (by kernel_rfl) (by simp [hn]) fun C k hC hk => ?_; simp [hx])
    | (refine HD2_nil (hC _ (by kernel_rfl)) (hk _ ?_); clear hC hk C k)
    | (refine HD2_val rfl ?_; simp [hx])
    | (refine HD2_chg rfl ?_; simp [hx])
    | (refine HD2_guardU rfl (by simp [hx]) ?_; simp [hx])
    | (refine HD2_guard rfl (by simp [hx]) (fun hc => ?_) (fun hc => ?_) <;> (try simp [hx] at hc) <;> (try (exfalso; omega)) <;> (try simp [hx]))
    | (refine V_block ?_)
        | (refine V_ret ?_)
    | (refine V_exit ?_)
    | (refine V_skip ?_)
    | (refine R_seq ?_)
    | (refine R_seq_ret ?_)
    | (refine R_seq_exit ?_)
    | (refine R_blk_ret ?_)
    | (refine R_blk ?_)
    | (refine R_blk_exit ?_)
    | (refine R_blk_other (by decide) ?_)
    | (refine R_loop_ret ?_)
    | (refine R_loop_exit ?_)
    | (refine R_loop ?_)
    | (refine R_done ?_)
    | (refine hk _ ?_; clear hk k)
    | (refine ⟨by omega, ?_⟩)
    | (refine ⟨?_, by omega⟩)
    | (refine ⟨fun hc => ?_, fun hc => ?_⟩ <;> (try (exfalso; omega)))
    | (refine V_cond rfl (fun hc => ?_) (fun hc => ?_) <;> (try simp [hx] at hc) <;> (try (exfalso; omega)))
    | (intro hc <;> (try (exfalso; omega))))
    all_goals
      refine LoopW.next ⟨i + 1, by omega⟩ (by simp; omega) ?_
      exact (Wk.env rfl rfl rfl (by simp [wkE, St.lp, keepE, getK_cons, getK, hsn, *] <;> (try (intros; simp_all; done)) <;> (try (intros; omega)) <;> (try grind)))
  have hge : l.length ≤ i := by simpa using hx
  rw [show l.take i = l from List.take_of_length_le hge]
  repeat' (first
    | (refine H_cons ?_; simp [hx])
    | (refine H_nil ?_)
    | (refine HD_nil ?_)
    | (refine HD_cons ?_; simp [hx])
    | (refine HD_guardU rfl (by simp [hx]) ?_; simp [hx])
    | (refine HD_guard rfl (by simp [hx]) (fun hc => ?_) (fun hc => ?_) <;> (try simp [hx] at hc) <;> (try (exfalso; omega)) <;> (try simp [hx]))
    | (refine V_seq ?_)
    | (refine V_region1 fun k hk => ?_; simp [hx])
    | (refine V_drawV rfl (by kernel_rfl) (by kernel_rfl) fun k hk => ?_; simp [hx])
    | (refine V_drawE rfl (by kernel_rfl) (by kernel_rfl) (by simp [hn]) fun C k hC hk => ?_; simp [hx])
    | (refine HD2_nil (hC _ (by kernel_rfl)) (hk _ ?_); clear hC hk C k)
    | (refine HD2_val rfl ?_; simp [hx])
    | (refine HD2_chg rfl ?_; simp [hx])
    | (refine HD2_guardU rfl (by simp [hx]) ?_; simp [hx])
    | (refine HD2_guard rfl (by simp [hx]) (fun hc => ?_) (fun hc => ?_) <;> (try simp [hx] at hc) <;> (try (exfalso; omega)) <;> (try simp [hx]))
    | (refine V_block ?_)
        | (refine V_ret ?_)
    | (refine V_exit ?_)
    | (refine V_skip ?_)
    | (refine R_seq ?_)
    | (refine R_seq_ret ?_)
    | (refine R_seq_exit ?_)
    | (refine R_blk_ret ?_)
    | (refine R_blk ?_)
    | (refine R_blk_exit ?_)
    | (refine R_blk_other (by decide) ?_)
    | (refine R_loop_ret ?_)
    | (refine R_loop_exit ?_)
    | (refine R_loop ?_)
    | (refine R_done ?_)
    | (refine hk _ ?_; clear hk k)
    | (refine ⟨by omega, ?_⟩)
    | (refine ⟨?_, by omega⟩)
    | (refine ⟨fun hc => ?_, fun hc => ?_⟩ <;> (try (exfalso; omega)))
    | (refine V_cond rfl (fun hc => ?_) (fun hc => ?_) <;> (try simp [hx] at hc) <;> (try (exfalso; omega)))
    | (intro hc <;> (try (exfalso; omega))))
  -- the names among the given values
  refine V_loopF (α := { i : Nat // i ≤ vs.length }) [0, 1, 3, 4, 7, 11, 12, 13, 14] (fun i => [(15, .u (.bool (idleA one.name l || idleB one.name (vs.take i.1)))), (16, .u (.bool (uniqB (vs.take i.1)))), (18, .u (.int .i64 i.1))]) (fun i => vs.length - i.1) ⟨0, by omega⟩ ?_ ?_
  · exact (Wk.env rfl rfl rfl (by simp [wkE, St.lp, keepE, getK_cons, getK, idleB, uniqB] <;> (try (intros; simp_all; done)) <;> (try (intros; omega)) <;> (try grind)))
  clear hi hge hx
  rename_i i0 h0
  clear h0 i0
  rintro ⟨i, hi⟩
  simp [St.lp, St.only, keepE, getK_cons, getK]
  rcases hx : vs[i]? with _ | v
  case some =>
    have hlt := (List.getElem?_eq_some_iff.1 hx).1
    have hsB := idleB_snoc one.name (vs.take i) v
    have hsU := uniqB_snoc (vs.take i) v
    rw [show vs.take i ++ [v] = vs.take (i + 1) by rw [List.take_succ_eq_append_getElem hlt, (List.getElem?_eq_some_iff.1 hx).2]] at hsB hsU
    repeat' (first
    | (refine H_cons ?_; simp [hx])
    | (refine H_nil ?_)
    | (refine HD_nil ?_)
    | (refine HD_cons ?_; simp [hx])
    | (refine HD_guardU rfl (by simp [hx]) ?_; simp [hx])
    | (refine HD_guard rfl (by simp [hx]) (fun hc => ?_) (fun hc => ?_) <;> (try simp [hx] at hc) <;> (try (exfalso; omega)) <;> (try simp [hx]))
    | (refine V_seq ?_)
    | (refine V_region1 fun k hk => ?_; simp [hx])
    | (refine V_drawV rfl (by kernel_rfl) (by kernel_rfl) fun k hk => ?_; simp [hx])
    | (refine V_drawE rfl (by kernel_rfl) (by kernel_rfl) (by simp [hn]) fun C k hC hk => ?_; simp [hx])
    | (refine HD2_nil (hC _ (by kernel_rfl)) (hk _ ?_); clear hC hk C k)
    | (refine HD2_val rfl ?_; simp [hx])
    | (refine HD2_chg rfl ?_; simp [hx])
    | (refine HD2_guardU rfl (by simp [hx]) ?_; simp [hx])
    | (refine HD2_guard rfl (by simp [hx]) (fun hc => ?_) (fun hc => ?_) <;> (try simp [hx] at hc) <;> (try (exfalso; omega)) <;> (try simp [hx]))
    | (refine V_block ?_)
        | (refine V_ret ?_)
    | (refine V_exit ?_)
    | (refine V_skip ?_)
    | (refine R_seq ?_)
    | (refine R_seq_ret ?_)
    | (refine R_seq_exit ?_)
    | (refine R_blk_ret ?_)
    | (refine R_blk ?_)
    | (refine R_blk_exit ?_)
    | (refine R_blk_other (by decide) ?_)
    | (refine R_loop_ret ?_)
    | (refine R_loop_exit ?_)
    | (refine R_loop ?_)
    | (refine R_done ?_)
    | (refine hk _ ?_; clear hk k)
    | (refine ⟨by omega, ?_⟩)
    | (refine ⟨?_, by omega⟩)
    | (refine ⟨fun hc => ?_, fun hc => ?_⟩ <;> (try (exfalso; omega)))
    | (refine V_cond rfl (fun hc => ?_) (fun hc => ?_) <;> (try simp [hx] at hc) <;> (try (exfalso; omega)))
    | (intro hc <;> (try (exfalso; omega))))
    all_goals
      refine V_loopF (α := { k : Nat // k ≤ i }) [0, 1, 3, 4, 7, 11, 12, 13, 14, 15, 18] (fun k => [(16, .u (.bool (uniqB (vs.take i) && uniqAt v.name (vs.take k.1)))), (19, .u (.int .i64 k.1))]) (fun k => i - k.1) ⟨0, by omega⟩ ?_ ?_
      · exact (Wk.env rfl rfl rfl (by simp [wkE, St.lp, keepE, getK_cons, getK, uniqAt] <;> (try (intros; simp_all; done)) <;> (try (intros; omega)) <;> (try grind)))
      rintro ⟨k, hk3⟩
      simp [St.lp, St.only, keepE, getK_cons, getK]
      by_cases hki : k < i
      · have hkx : vs[k]? = some vs[k] := List.getElem?_eq_getElem (by omega)
        have hsn := uniqAt_snoc v.name (vs.take k) vs[k]
        rw [← List.take_succ_eq_append_getElem (by omega)] at hsn
        generalize vs[k] = u at hkx hsn
        repeat' (first
    | (refine H_cons ?_; simp [hx, hkx])
    | (refine H_nil ?_)
    | (refine HD_nil ?_)
    | (refine HD_cons ?_; simp [hx, hkx])
    | (refine HD_guardU rfl (by simp [hx, hkx]) ?_; simp [hx, hkx])
    | (refine HD_guard rfl (by simp [hx, hkx]) (fun hc => ?_) (fun hc => ?_) <;> (try simp [hx, hkx] at hc) <;> (try (exfalso; omega)) <;> (try simp [hx, hkx]))
    | (refine V_seq ?_)
    | (refine V_region1 fun k hk => ?_; simp [hx, hkx])
    | (refine V_drawV rfl (by kernel_rfl) (by kernel_rfl) fun k hk => ?_; simp [hx, hkx])
    | (refine V_drawE rfl (by kernel_rfl) (by kernel_rfl) (by simp [hn]) fun C k hC hk => ?_; simp [hx, hkx])
    | (refine HD2_nil (hC _ (by kernel_rfl)) (hk _ ?_); clear hC hk C k)
    | (refine HD2_val rfl ?_; simp [hx, hkx])
    | (refine HD2_chg rfl ?_; simp [hx, hkx])
    | (refine HD2_guardU rfl (by simp [hx, hkx]) ?_; simp [hx, hkx])
    | (refine HD2_guard rfl (by simp [hx, hkx]) (fun hc => ?_) (fun hc => ?_) <;> (try simp [hx, hkx] at hc) <;> (try (exfalso; omega)) <;> (try simp [hx, hkx]))
    | (refine V_block ?_)
        | (refine V_ret ?_)
    | (refine V_exit ?_)
    | (refine V_skip ?_)
    | (refine R_seq ?_)
    | (refine R_seq_ret ?_)
    | (refine R_seq_exit ?_)
    | (refine R_blk_ret ?_)
    | (refine R_blk ?_)
    | (refine R_blk_exit ?_)
    | (refine R_blk_other (by decide) ?_)
    | (refine R_loop_ret ?_)
    | (refine R_loop_exit ?_)
    | (refine R_loop ?_)
    | (refine R_done ?_)
    | (refine hk _ ?_; clear hk k)
    | (refine ⟨by omega, ?_⟩)
    | (refine ⟨?_, by omega⟩)
    | (refine ⟨fun hc => ?_, fun hc => ?_⟩ <;> (try (exfalso; omega)))
    | (refine V_cond rfl (fun hc => ?_) (fun hc => ?_) <;> (try simp [hx, hkx] at hc) <;> (try (exfalso; omega)))
    | (intro hc <;> (try (exfalso; omega))))
        all_goals
          refine LoopW.next ⟨k + 1, by omega⟩ (by simp; omega) ?_
          exact (Wk.env rfl rfl rfl (by simp [wkE, St.lp, keepE, getK_cons, getK, hsn, *] <;> (try (intros; simp_all; done)) <;> (try (intros; omega)) <;> (try grind)))
      · obtain rfl : k = i := by omega
        repeat' (first
    | (refine H_cons ?_; simp [hx])
    | (refine H_nil ?_)
    | (refine HD_nil ?_)
    | (refine HD_cons ?_; simp [hx])
    | (refine HD_guardU rfl (by simp [hx]) ?_; simp [hx])
    | (refine HD_guard rfl (by simp [hx]) (fun hc => ?_) (fun hc => ?_) <;> (try simp [hx] at hc) <;> (try (exfalso; omega)) <;> (try simp [hx]))
    | (refine V_seq ?_)
    | (refine V_region1 fun k hk => ?_; simp [hx])
    | (refine V_drawV rfl (by kernel_rfl) (by kernel_rfl) fun k hk => ?_; simp [hx])
    | (refine V_drawE rfl (by kernel_rfl) (by kernel_rfl) (by simp [hn]) fun C k hC hk => ?_; simp [hx])
    | (refine HD2_nil (hC _ (by kernel_rfl)) (hk _ ?_); clear hC hk C k)
    | (refine HD2_val rfl ?_; simp [hx])
    | (refine HD2_chg rfl ?_; simp [hx])
    | (refine HD2_guardU rfl (by simp [hx]) ?_; simp [hx])
    | (refine HD2_guard rfl (by simp [hx]) (fun hc => ?_) (fun hc => ?_) <;> (try simp [hx] at hc) <;> (try (exfalso; omega)) <;> (try simp [hx]))
    | (refine V_block ?_)
        | (refine V_ret ?_)
    | (refine V_exit ?_)
    | (refine V_skip ?_)
    | (refine R_seq ?_)
    | (refine R_seq_ret ?_)
    | (refine R_seq_exit ?_)
    | (refine R_blk_ret ?_)
    | (refine R_blk ?_)
    | (refine R_blk_exit ?_)
    | (refine R_blk_other (by decide) ?_)
    | (refine R_loop_ret ?_)
    | (refine R_loop_exit ?_)
    | (refine R_loop ?_)
    | (refine R_done ?_)
    | (refine hk _ ?_; clear hk k)
    | (refine ⟨by omega, ?_⟩)
    | (refine ⟨?_, by omega⟩)
    | (refine ⟨fun hc => ?_, fun hc => ?_⟩ <;> (try (exfalso; omega)))
    | (refine V_cond rfl (fun hc => ?_) (fun hc => ?_) <;> (try simp [hx] at hc) <;> (try (exfalso; omega)))
    | (intro hc <;> (try (exfalso; omega))))
        all_goals
          refine LoopW.next ⟨k + 1, by omega⟩ (by simp; omega) ?_
          exact (Wk.env rfl rfl rfl (by simp [wkE, St.lp, keepE, getK_cons, getK, hsB, hsU, *] <;> (try (intros; simp_all; done)) <;> (try (intros; omega)) <;> (try grind)))
  have hge : vs.length ≤ i := by simpa using hx
  rw [show vs.take i = vs from List.take_of_length_le hge]
  simp only [List.map_append, List.map_cons, List.map_nil, List.map_drop, List.map_take] at hr2 hr3
  repeat' (first
    | (first | (refine CallV.fun_ (hr2) (by rfl) (by first | assumption | (simp; done) | fail) (by first | (simp [hx, zcells, chunks, List.range_succ]; done) | (simp [hx, zcells, chunks, List.range_succ]; rfl)) (by first | (simp; done) | fail) ?_ <;> (try simp [hx, zcells, chunks, List.range_succ])) | (refine CallP.fun_ (hr2) (by rfl) (by first | assumption | (simp; done) | fail) (by first | (simp [hx, zcells, chunks, List.range_succ]; done) | (simp [hx, zcells, chunks, List.range_succ]; rfl)) (by first | (simp; done) | fail) (fun d hd => ?_); subst hd; (try simp [hx, zcells, chunks, List.range_succ])))
    | (first | (refine CallV.fun_ (hr3) (by rfl) (by first | assumption | (simp; done) | fail) (by first | (simp [hx, zcells, chunks, List.range_succ]; done) | (simp [hx, zcells, chunks, List.range_succ]; rfl)) (by first | (simp; done) | fail) ?_ <;> (try simp [hx, zcells, chunks, List.range_succ])) | (refine CallP.fun_ (hr3) (by rfl) (by first | assumption | (simp; done) | fail) (by first | (simp [hx, zcells, chunks, List.range_succ]; done) | (simp [hx, zcells, chunks, List.range_succ]; rfl)) (by first | (simp; done) | fail) (fun d hd => ?_); subst hd; (try simp [hx, zcells, chunks, List.range_succ])))
    | (refine H_cons ?_; simp [hx, zcells, chunks, List.range_succ])
    | (refine H_nil ?_)
    | (refine HD_nil ?_)
    | (refine HD_cons ?_; simp [hx, zcells, chunks, List.range_succ])
    | (refine HD_guardU rfl (by simp [hx, zcells, chunks, List.range_succ]) ?_; simp [hx, zcells, chunks, List.range_succ])
    | (refine HD_guard rfl (by simp [hx, zcells, chunks, List.range_succ]) (fun hc => ?_) (fun hc => ?_) <;> (try simp [hx, zcells, chunks, List.range_succ] at hc) <;> (try (exfalso; omega)) <;> (try simp [hx, zcells, chunks, List.range_succ]))
    | (refine V_seq ?_)
    | (refine V_region1 fun k hk => ?_; simp [hx, zcells, chunks, List.range_succ])
    | (refine V_drawV rfl (by kernel_rfl) (by kernel_rfl) fun k hk => ?_; simp [hx, zcells, chunks, List.range_succ])
    | (refine V_drawE rfl (by kernel_rfl) (by kernel_rfl) (by simp [hn]) fun C k hC hk => ?_; simp [hx, zcells, chunks, List.range_succ])
    | (refine HD2_nil (hC _ (by kernel_rfl)) (hk _ ?_); clear hC hk C k)
    | (refine HD2_val rfl ?_; simp [hx, zcells, chunks, List.range_succ])
    | (refine HD2_chg rfl ?_; simp [hx, zcells, chunks, List.range_succ])
    | (refine HD2_guardU rfl (by simp [hx, zcells, chunks, List.range_succ]) ?_; simp [hx, zcells, chunks, List.range_succ])
    | (refine HD2_guard rfl (by simp [hx, zcells, chunks, List.range_succ]) (fun hc => ?_) (fun hc => ?_) <;> (try simp [hx, zcells, chunks, List.range_succ] at hc) <;> (try (exfalso; omega)) <;> (try simp [hx, zcells, chunks, List.range_succ]))
    | (refine V_block ?_)
        | (refine V_ret ?_)
    | (refine V_exit ?_)
    | (refine V_skip ?_)
    | (refine R_seq ?_)
    | (refine R_seq_ret ?_)
    | (refine R_seq_exit ?_)
    | (refine R_blk_ret ?_)
    | (refine R_blk ?_)
    | (refine R_blk_exit ?_)
    | (refine R_blk_other (by decide) ?_)
    | (refine R_loop_ret ?_)
    | (refine R_loop_exit ?_)
    | (refine R_loop ?_)
    | (refine R_done ?_)
    | (refine hk _ ?_; clear hk k)
    | (refine ⟨by omega, ?_⟩)
    | (refine ⟨?_, by omega⟩)
    | (refine ⟨fun hc => ?_, fun hc => ?_⟩ <;> (try (exfalso; omega)))
    | (refine V_cond rfl (fun hc => ?_) (fun hc => ?_) <;> (try simp [hx, zcells, chunks, List.range_succ] at hc) <;> (try (exfalso; omega)))
    | (intro hc <;> (try (exfalso; omega))))
  all_goals
    (refine EndOK.val (.inr rfl) ?_; simp [resD, oneOrTup, pureD, Try.results3])
  all_goals
    simp_all
end Go.Proofs.Ytblmompdcammeaa
