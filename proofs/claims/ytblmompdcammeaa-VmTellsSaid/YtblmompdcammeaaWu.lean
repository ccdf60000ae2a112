/- A step of the machine, by value. -/
import Derived.Test.YtblmompdcammeaaWq
import Derived.Test.YtblmompdcammeaaVLN
set_option linter.all false
namespace Go.Proofs.Ytblmompdcammeaa
open Go Go.VL
attribute [local simp] hcons hstep evPure opd uOf putOK St.put St.at getK binD binI binS binB nilD aggD eqUs cmpK shiftI arith unD convD pickD loadD cellsAt fieldAddrD fieldD indexAddrD indexD sliceD cutD lenD minmaxD nilCheckD buildD fillD cellsD isOne ones setAll mkAgg allU allocD boxD storeD St.add buildSliceD appendD rowsOf makeD setOb getK_setOb getK_del getK_cons stripL strip guardTmp entry chunks zcells valD argsV argsW argW argU1 argU0 argsU0 argsU1 calleeOf scalarD scalarU delAll effD St.effS applyW mkD rdIds lentIds callOf calleeOf freeOp D.ids Op.operands Call.operands isEffOp IntKind.bits allU2 allU2_append List.take_of_length_le List.range_succ
attribute [local irreducible] V G H HD HD2 RunK Eff CallP CallV EndOK Fun Ret FinOK LoopI LoopW EndW
theorem clone_ret (l : List Int) (o : List (Nat × Ob)) (nx : Nat) (hl : l.length ≤ 1000000) : Ret Try.prog 17 [.u (ints l)] o nx
    (fun d o' n' => ∃ j, nx ≤ j ∧ j < n' ∧ d = .vec j l.length ∧ getK o' j = some (.vec 3 1 (stk l)) ∧ ∀ i, i < nx → getK o' i = getK o i) := by
  have hsk : ∀ l : List Int, rowsD (l.map fun n => [U.int .i64 n]) = stk l := fun l => by simp [rowsD, stk]
  cases l with
  | nil =>
    (refine Ret.of_bodyW Try.func17 rfl (by simp) fun Γ hn => ?_); simp only [entry, List.zipIdx_cons, List.zipIdx_nil, List.map_cons, List.map_nil, Nat.zero_add, Try.ntmps17]
    simp only [ints, List.map_nil]
    refine V_nilsplit (x := 0) rfl ?_ (fun a cp => ?_)
    · repeat' (first
    | (refine H_cons ?_; simp)
    | (refine H_nil ?_)
    | (refine HD_nil ?_)
    | (refine HD_cons ?_; simp)
    | (refine HD_guardU rfl (by simp) ?_; simp)
    | (refine HD_guard rfl (by simp) (fun hc => ?_) (fun hc => ?_) <;> (try simp at hc) <;> (try (exfalso; omega)) <;> (try simp))
    | (refine V_seq ?_)
    | (refine V_region1 fun k hk => ?_; simp)
    | (refine V_drawV rfl (by kernel_rfl) (by kernel_rfl) fun k hk => ?_; simp)
    | (refine V_drawE rfl (by kernel_rfl) (by kernel_rfl) (by simp [hn]) fun C k hC hk => ?_; simp)
    | (refine HD2_nil (hC _ (by kernel_rfl)) (hk _ ?_); clear hC hk C k)
    | (refine HD2_val rfl ?_; simp)
    | (refine HD2_chg rfl ?_; simp)
    | (refine HD2_guardU rfl (by simp) ?_; simp)
    | (refine HD2_guard rfl (by simp) (fun hc => ?_) (fun hc => ?_) <;> (try simp at hc) <;> (try (exfalso; omega)) <;> (try simp))
    | (refine V_block ?_)
        | (refine V_ret ?_)
    | (refine V_exit ?_)
    | (refine V_skip ?_)
    | (refine R_seq ?_)
    | (refine R_seq_ret ?_)
    | (refine R_seq_exit ?_)
    | (refine R_blk_ret ?_)
    | (refine R_blk ?_)
    | (refine R_blk_exit ?_)
    | (refine R_blk_other (by decide) ?_)
    | (refine R_loop_ret ?_)
    | (refine R_loop_exit ?_)
    | (refine R_loop ?_)
    | (refine R_done ?_)
    | (refine hk _ ?_; clear hk k)
    | (refine ⟨by omega, ?_⟩)
    | (refine ⟨?_, by omega⟩)
    | (refine ⟨fun hc => ?_, fun hc => ?_⟩ <;> (try (exfalso; omega)))
    | (refine V_cond rfl (fun hc => ?_) (fun hc => ?_) <;> (try simp at hc) <;> (try (exfalso; omega)))
    | (intro hc <;> (try (exfalso; omega))))
      refine EndW.wk _ (Wk.own 2 3 1 (by omega) rfl) (EndW.here ?_)
      (first | (refine EndOK.fin (.inr rfl) ?_) | (refine EndOK.fin (.inl rfl) ?_)); simp [resD, oneOrTup, Try.results17]
      refine FinOK.here ?_ ⟨nx, ?_⟩ <;> simp [St.own, stk]
      omega
    · repeat' (first
    | (refine H_cons ?_; simp)
    | (refine H_nil ?_)
    | (refine HD_nil ?_)
    | (refine HD_cons ?_; simp)
    | (refine HD_guardU rfl (by simp) ?_; simp)
    | (refine HD_guard rfl (by simp) (fun hc => ?_) (fun hc => ?_) <;> (try simp at hc) <;> (try (exfalso; omega)) <;> (try simp))
    | (refine V_seq ?_)
    | (refine V_region1 fun k hk => ?_; simp)
    | (refine V_drawV rfl (by kernel_rfl) (by kernel_rfl) fun k hk => ?_; simp)
    | (refine V_drawE rfl (by kernel_rfl) (by kernel_rfl) (by simp [hn]) fun C k hC hk => ?_; simp)
    | (refine HD2_nil (hC _ (by kernel_rfl)) (hk _ ?_); clear hC hk C k)
    | (refine HD2_val rfl ?_; simp)
    | (refine HD2_chg rfl ?_; simp)
    | (refine HD2_guardU rfl (by simp) ?_; simp)
    | (refine HD2_guard rfl (by simp) (fun hc => ?_) (fun hc => ?_) <;> (try simp at hc) <;> (try (exfalso; omega)) <;> (try simp))
    | (refine V_block ?_)
        | (refine V_ret ?_)
    | (refine V_exit ?_)
    | (refine V_skip ?_)
    | (refine R_seq ?_)
    | (refine R_seq_ret ?_)
    | (refine R_seq_exit ?_)
    | (refine R_blk_ret ?_)
    | (refine R_blk ?_)
    | (refine R_blk_exit ?_)
    | (refine R_blk_other (by decide) ?_)
    | (refine R_loop_ret ?_)
    | (refine R_loop_exit ?_)
    | (refine R_loop ?_)
    | (refine R_done ?_)
    | (refine hk _ ?_; clear hk k)
    | (refine ⟨by omega, ?_⟩)
    | (refine ⟨?_, by omega⟩)
    | (refine ⟨fun hc => ?_, fun hc => ?_⟩ <;> (try (exfalso; omega)))
    | (refine V_cond rfl (fun hc => ?_) (fun hc => ?_) <;> (try simp at hc) <;> (try (exfalso; omega)))
    | (intro hc <;> (try (exfalso; omega))))
      refine EndW.here ?_
      (first | (refine EndOK.fin (.inr rfl) ?_) | (refine EndOK.fin (.inl rfl) ?_)); simp [resD, oneOrTup, Try.results17]
      refine FinOK.here (by simp; omega) ⟨nx + 1, by omega, by simp, by simp, by simp [stk], fun i hi => by simp [getK_cons, getK_del, show i ≠ nx by omega, show i ≠ nx + 1 by omega]⟩
  | cons x l =>
    simp only [List.length_cons] at hl
    (refine Ret.of_bodyW Try.func17 rfl (by simp) fun Γ hn => ?_); simp only [entry, List.zipIdx_cons, List.zipIdx_nil, List.map_cons, List.map_nil, Nat.zero_add, Try.ntmps17]
    simp only [ints, List.map_cons]
    repeat' (first
    | (refine H_cons ?_; simp)
    | (refine H_nil ?_)
    | (refine HD_nil ?_)
    | (refine HD_cons ?_; simp)
    | (refine HD_guardU rfl (by simp) ?_; simp)
    | (refine HD_guard rfl (by simp) (fun hc => ?_) (fun hc => ?_) <;> (try simp at hc) <;> (try (exfalso; omega)) <;> (try simp))
    | (refine V_seq ?_)
    | (refine V_region1 fun k hk => ?_; simp)
    | (refine V_drawV rfl (by kernel_rfl) (by kernel_rfl) fun k hk => ?_; simp)
    | (refine V_drawE rfl (by kernel_rfl) (by kernel_rfl) (by simp [hn]) fun C k hC hk => ?_; simp)
    | (refine HD2_nil (hC _ (by kernel_rfl)) (hk _ ?_); clear hC hk C k)
    | (refine HD2_val rfl ?_; simp)
    | (refine HD2_chg rfl ?_; simp)
    | (refine HD2_guardU rfl (by simp) ?_; simp)
    | (refine HD2_guard rfl (by simp) (fun hc => ?_) (fun hc => ?_) <;> (try simp at hc) <;> (try (exfalso; omega)) <;> (try simp))
    | (refine V_block ?_)
        | (refine V_ret ?_)
    | (refine V_exit ?_)
    | (refine V_skip ?_)
    | (refine R_seq ?_)
    | (refine R_seq_ret ?_)
    | (refine R_seq_exit ?_)
    | (refine R_blk_ret ?_)
    | (refine R_blk ?_)
    | (refine R_blk_exit ?_)
    | (refine R_blk_other (by decide) ?_)
    | (refine R_loop_ret ?_)
    | (refine R_loop_exit ?_)
    | (refine R_loop ?_)
    | (refine R_done ?_)
    | (refine hk _ ?_; clear hk k)
    | (refine ⟨by omega, ?_⟩)
    | (refine ⟨?_, by omega⟩)
    | (refine ⟨fun hc => ?_, fun hc => ?_⟩ <;> (try (exfalso; omega)))
    | (refine V_cond rfl (fun hc => ?_) (fun hc => ?_) <;> (try simp at hc) <;> (try (exfalso; omega)))
    | (intro hc <;> (try (exfalso; omega))))
    refine EndW.here ?_
    (first | (refine EndOK.fin (.inr rfl) ?_) | (refine EndOK.fin (.inl rfl) ?_)); simp [resD, oneOrTup, Try.results17]
    refine FinOK.here (by simp; omega) ⟨nx + 1, by omega, by simp, by simp, by simp [stk, rowsD], fun i hi => by simp [getK_cons, getK_del, show i ≠ nx by omega, show i ≠ nx + 1 by omega]⟩
def magg (m : Mach) : U := .agg [.int .i64 m.pc, ints m.stack, .bool m.en, .int .i64 m.va, .int .i64 m.er]
def stepV (code : List Ins) (vs : List Var) (m : Mach) : Mach := if m.en then m else stepM code vs { m with va := 0, er := 0 }
theorem stk_us (l : List Int) : allU2 (stk l) = some (l.map fun n => [U.int .i64 n]) := allU2_stk l
set_option maxHeartbeats 4000000 in
theorem step_fun (code : List Ins) (vs : List Var) (m : Mach) (hl : m.stack.length < 100000) : Fun Try.prog 11 [.u (inss code), .u (vars vs), .u (magg m)] (· = .u (magg (stepV code vs m))) := by
  obtain ⟨pc, st, en, va, er⟩ := m
  simp only at hl
  have hc := clone_ret st
  (refine Fun.of_bodyW Try.func11 rfl (by simp) fun Γ hn => ?_); simp only [entry, List.zipIdx_cons, List.zipIdx_nil, List.map_cons, List.map_nil, Nat.zero_add, Try.ntmps11]
  simp only [magg, ints, inss, vars]
  repeat' (first
    | (refine CallP.ret_ (clone_ret st _ _ (by omega)) (by rfl) (by first | assumption | simp) (by rfl) (by simp) ?_; rintro d o n' hn' ⟨j, hj, hjn, rfl, hv, hk2⟩; (try simp at hn'); (try simp))
    | (refine H_cons ?_; simp)
    | (refine H_nil ?_)
    | (refine HD_nil ?_)
    | (refine HD_cons ?_; simp)
    | (refine HD_guardU rfl (by simp) ?_; simp)
    | (refine HD_guard rfl (by simp) (fun hc => ?_) (fun hc => ?_) <;> (try simp at hc) <;> (try (exfalso; omega)) <;> (try simp))
    | (refine V_seq ?_)
    | (refine V_region1 fun k hk => ?_; simp)
    | (refine V_drawV rfl (by kernel_rfl) (by kernel_rfl) fun k hk => ?_; simp)
    | (refine V_drawE rfl (by kernel_rfl) (by kernel_rfl) (by simp [hn]) fun C k hC hk => ?_; simp)
    | (refine HD2_nil (hC _ (by kernel_rfl)) (hk _ ?_); clear hC hk C k)
    | (refine HD2_val rfl ?_; simp)
    | (refine HD2_chg rfl ?_; simp)
    | (refine HD2_guardU rfl (by simp) ?_; simp)
    | (refine HD2_guard rfl (by simp) (fun hc => ?_) (fun hc => ?_) <;> (try simp at hc) <;> (try (exfalso; omega)) <;> (try simp))
    | (refine V_block ?_)
        | (refine V_ret ?_)
    | (refine V_exit ?_)
    | (refine V_skip ?_)
    | (refine R_seq ?_)
    | (refine R_seq_ret ?_)
    | (refine R_seq_exit ?_)
    | (refine R_blk_ret ?_)
    | (refine R_blk ?_)
    | (refine R_blk_exit ?_)
    | (refine R_blk_other (by decide) ?_)
    | (refine R_loop_ret ?_)
    | (refine R_loop_exit ?_)
    | (refine R_loop ?_)
    | (refine R_done ?_)
    | (refine hk _ ?_; clear hk k)
    | (refine ⟨by omega, ?_⟩)
    | (refine ⟨?_, by omega⟩)
    | (refine ⟨fun hc => ?_, fun hc => ?_⟩ <;> (try (exfalso; omega)))
    | (refine V_cond rfl (fun hc => ?_) (fun hc => ?_) <;> (try simp at hc) <;> (try (exfalso; omega)))
    | (intro hc <;> (try (exfalso; omega))))
  simp only at hj hk2
  have h0 := hk2 0 (by omega)
  have h1 := hk2 1 (by omega)
  simp [getK_cons, getK] at h0 h1
  have hj0 : j ≠ 0 := by omega
  have hj1 : j ≠ 1 := by omega
  have hj0' : 0 ≠ j := by omega
  have hj1' : 1 ≠ j := by omega
  clear hc
  simp [h0]
  repeat' (first
    | (refine H_cons ?_; simp [h0, h1, hv, hj0, hj1, hj0', hj1'])
    | (refine H_nil ?_)
    | (refine HD_nil ?_)
    | (refine HD_cons ?_; simp [h0, h1, hv, hj0, hj1, hj0', hj1'])
    | (refine HD_guardU rfl (by simp [h0, h1, hv, hj0, hj1, hj0', hj1']) ?_; simp [h0, h1, hv, hj0, hj1, hj0', hj1'])
    | (refine HD_guard rfl (by simp [h0, h1, hv, hj0, hj1, hj0', hj1']) (fun hc => ?_) (fun hc => ?_) <;> (try simp [h0, h1, hv, hj0, hj1, hj0', hj1'] at hc) <;> (try (exfalso; omega)) <;> (try simp [h0, h1, hv, hj0, hj1, hj0', hj1']))
    | (refine V_seq ?_)
    | (refine V_region1 fun k hk => ?_; simp [h0, h1, hv, hj0, hj1, hj0', hj1'])
    | (refine V_drawV rfl (by kernel_rfl) (by kernel_rfl) fun k hk => ?_; simp [h0, h1, hv, hj0, hj1, hj0', hj1'])
    | (refine V_drawE rfl (by kernel_rfl) (by kernel_rfl) (by simp [hn]) fun C k hC hk => ?_; simp [h0, h1, hv, hj0, hj1, hj0', hj1'])
    | (refine HD2_nil (hC _ (by kernel_rfl)) (hk _ ?_); clear hC hk C k)
    | (refine HD2_val rfl ?_; simp [h0, h1, hv, hj0, hj1, hj0', hj1'])
    | (refine HD2_chg rfl ?_; simp [h0, h1, hv, hj0, hj1, hj0', hj1'])
    | (refine HD2_guardU rfl (by simp [h0, h1, hv, hj0, hj1, hj0', hj1']) ?_; simp [h0, h1, hv, hj0, hj1, hj0', hj1'])
    | (refine HD2_guard rfl (by simp [h0, h1, hv, hj0, hj1, hj0', hj1']) (fun hc => ?_) (fun hc => ?_) <;> (try simp [h0, h1, hv, hj0, hj1, hj0', hj1'] at hc) <;> (try (exfalso; omega)) <;> (try simp [h0, h1, hv, hj0, hj1, hj0', hj1']))
    | (refine V_block ?_)
        | (refine V_ret ?_)
    | (refine V_exit ?_)
    | (refine V_skip ?_)
    | (refine R_seq ?_)
    | (refine R_seq_ret ?_)
    | (refine R_seq_exit ?_)
    | (refine R_blk_ret ?_)
    | (refine R_blk ?_)
    | (refine R_blk_exit ?_)
    | (refine R_blk_other (by decide) ?_)
    | (refine R_loop_ret ?_)
    | (refine R_loop_exit ?_)
    | (refine R_loop ?_)
    | (refine R_done ?_)
    | (refine hk _ ?_; clear hk k)
    | (refine ⟨by omega, ?_⟩)
    | (refine ⟨?_, by omega⟩)
    | (refine ⟨fun hc => ?_, fun hc => ?_⟩ <;> (try (exfalso; omega)))
    | (refine V_cond rfl (fun hc => ?_) (fun hc => ?_) <;> (try simp [h0, h1, hv, hj0, hj1, hj0', hj1'] at hc) <;> (try (exfalso; omega)))
    | (intro hc <;> (try (exfalso; omega))))
  · subst hc
    have hS : stepV code vs ⟨pc, st, false, va, er⟩ = stepM code vs ⟨pc, st, false, 0, 0⟩ := rfl
    rw [hS] at hk
    clear hS
    generalize hO : setOb (setOb (setOb o 0 (Ob.box [.u (.int .i64 pc), .vec j st.length, .u (.bool false), .u (.int .i64 va), .u (.int .i64 er)])) 0 (Ob.box [.u (.int .i64 pc), .vec j st.length, .u (.bool false), .u (.int .i64 0), .u (.int .i64 er)])) 0 (Ob.box [.u (.int .i64 pc), .vec j st.length, .u (.bool false), .u (.int .i64 0), .u (.int .i64 0)]) = O
    have o0 : getK O 0 = some (mbox pc (.vec j st.length) false 0 0) := by rw [← hO]; simp [getK_setOb, getK_cons, mbox]
    have o1 : getK O 1 = some (Ob.box [.u (.int .i64 0), .u .nil, .u (.bool false), .u (.int .i64 0), .u (.int .i64 0)]) := by rw [← hO]; simp [getK_setOb, getK_cons, h1]
    have oj : getK O j = some (.vec 3 1 (stk st)) := by rw [← hO]; simp [getK_setOb, getK_cons, hv, hj0]
    clear hO h0 h1 hv hk2
    have hst := step_ret code vs ⟨pc, st, false, 0, 0⟩ (del O 1) n' (by omega) (.inr ⟨j, st, hj0, hjn, by simp, by simp [getK_del, o0], by simp [getK_del, oj, hj1]⟩) hl
    simp only [inss, vars] at hst
    refine CallP.retF2 [(1, Ob.box [.u (.int .i64 0), .u .nil, .u (.bool false), .u (.int .i64 0), .u (.int .i64 0)])] (del O 1) hst (fun i => ?_) (fun i ob hi => ?_) (by rfl) (by simp) (by rfl) (by simp) (fun d o2 nx' hnx hfree hg => ?_)
    · simp only [List.cons_append, List.nil_append, getK_cons, getK_del]
      by_cases hi : i = 1
      · subst hi; simp [o1]
      · simp [hi]
    · rw [getK_cons] at hi
      by_cases h : i = 1
      · subst h; simp [getK_del]
      · rw [if_neg h] at hi; cases hi
    have hf1 := hfree 1 _ rfl
    simp only at hnx
    clear hfree hst o0 o1 oj hj hjn hj0 hj1 hj0' hj1'
    generalize stepM code vs ⟨pc, st, false, 0, 0⟩ = m' at *
    obtain ⟨pc', st', en', va', er'⟩ := m'
    simp only [MOb, MAt] at hg ⊢
    repeat' (first
    | (refine H_cons ?_; simp)
    | (refine H_nil ?_)
    | (refine HD_nil ?_)
    | (refine HD_cons ?_; simp)
    | (refine HD_guardU rfl (by simp) ?_; simp)
    | (refine HD_guard rfl (by simp) (fun hc => ?_) (fun hc => ?_) <;> (try simp at hc) <;> (try (exfalso; omega)) <;> (try simp))
    | (refine V_seq ?_)
    | (refine V_region1 fun k hk => ?_; simp)
    | (refine V_drawV rfl (by kernel_rfl) (by kernel_rfl) fun k hk => ?_; simp)
    | (refine V_drawE rfl (by kernel_rfl) (by kernel_rfl) (by simp [hn]) fun C k hC hk => ?_; simp)
    | (refine HD2_nil (hC _ (by kernel_rfl)) (hk _ ?_); clear hC hk C k)
    | (refine HD2_val rfl ?_; simp)
    | (refine HD2_chg rfl ?_; simp)
    | (refine HD2_guardU rfl (by simp) ?_; simp)
    | (refine HD2_guard rfl (by simp) (fun hc => ?_) (fun hc => ?_) <;> (try simp at hc) <;> (try (exfalso; omega)) <;> (try simp))
    | (refine V_block ?_)
        | (refine V_ret ?_)
    | (refine V_exit ?_)
    | (refine V_skip ?_)
    | (refine R_seq ?_)
    | (refine R_seq_ret ?_)
    | (refine R_seq_exit ?_)
    | (refine R_blk_ret ?_)
    | (refine R_blk ?_)
    | (refine R_blk_exit ?_)
    | (refine R_blk_other (by decide) ?_)
    | (refine R_loop_ret ?_)
    | (refine R_loop_exit ?_)
    | (refine R_loop ?_)
    | (refine R_done ?_)
    | (refine hk _ ?_; clear hk k)
    | (refine ⟨by omega, ?_⟩)
    | (refine ⟨?_, by omega⟩)
    | (refine ⟨fun hc => ?_, fun hc => ?_⟩ <;> (try (exfalso; omega)))
    | (refine V_cond rfl (fun hc => ?_) (fun hc => ?_) <;> (try simp at hc) <;> (try (exfalso; omega)))
    | (intro hc <;> (try (exfalso; omega))))
    rcases hg with ⟨rfl, h0⟩ | ⟨i, r, hi0, hin, htk, h0, hir⟩
    · simp only [mbox] at h0
      simp [h0]
      repeat' (first
    | (refine H_cons ?_; simp [h0])
    | (refine H_nil ?_)
    | (refine HD_nil ?_)
    | (refine HD_cons ?_; simp [h0])
    | (refine HD_guardU rfl (by simp [h0]) ?_; simp [h0])
    | (refine HD_guard rfl (by simp [h0]) (fun hc => ?_) (fun hc => ?_) <;> (try simp [h0] at hc) <;> (try (exfalso; omega)) <;> (try simp [h0]))
    | (refine V_seq ?_)
    | (refine V_region1 fun k hk => ?_; simp [h0])
    | (refine V_drawV rfl (by kernel_rfl) (by kernel_rfl) fun k hk => ?_; simp [h0])
    | (refine V_drawE rfl (by kernel_rfl) (by kernel_rfl) (by simp [hn]) fun C k hC hk => ?_; simp [h0])
    | (refine HD2_nil (hC _ (by kernel_rfl)) (hk _ ?_); clear hC hk C k)
    | (refine HD2_val rfl ?_; simp [h0])
    | (refine HD2_chg rfl ?_; simp [h0])
    | (refine HD2_guardU rfl (by simp [h0]) ?_; simp [h0])
    | (refine HD2_guard rfl (by simp [h0]) (fun hc => ?_) (fun hc => ?_) <;> (try simp [h0] at hc) <;> (try (exfalso; omega)) <;> (try simp [h0]))
    | (refine V_block ?_)
        | (refine V_ret ?_)
    | (refine V_exit ?_)
    | (refine V_skip ?_)
    | (refine R_seq ?_)
    | (refine R_seq_ret ?_)
    | (refine R_seq_exit ?_)
    | (refine R_blk_ret ?_)
    | (refine R_blk ?_)
    | (refine R_blk_exit ?_)
    | (refine R_blk_other (by decide) ?_)
    | (refine R_loop_ret ?_)
    | (refine R_loop_exit ?_)
    | (refine R_loop ?_)
    | (refine R_done ?_)
    | (refine hk _ ?_; clear hk k)
    | (refine ⟨by omega, ?_⟩)
    | (refine ⟨?_, by omega⟩)
    | (refine ⟨fun hc => ?_, fun hc => ?_⟩ <;> (try (exfalso; omega)))
    | (refine V_cond rfl (fun hc => ?_) (fun hc => ?_) <;> (try simp [h0] at hc) <;> (try (exfalso; omega)))
    | (intro hc <;> (try (exfalso; omega))))
      refine EndW.wk _ (Wk.norm _) (EndW.here ?_)
      (refine EndOK.val (.inr rfl) ?_; simp [resD, oneOrTup, pureD, Try.results11, frz_obs, frz_env, norm_obs, norm_env, frz, frzOb, normD, normU, norm1, normOb, h0])
    · simp only [mbox] at h0
      have hi1 : i ≠ 1 := fun e => by subst e; rw [hf1] at hir; cases hir
      simp [h0]
      repeat' (first
    | (refine H_cons ?_; simp [h0])
    | (refine H_nil ?_)
    | (refine HD_nil ?_)
    | (refine HD_cons ?_; simp [h0])
    | (refine HD_guardU rfl (by simp [h0]) ?_; simp [h0])
    | (refine HD_guard rfl (by simp [h0]) (fun hc => ?_) (fun hc => ?_) <;> (try simp [h0] at hc) <;> (try (exfalso; omega)) <;> (try simp [h0]))
    | (refine V_seq ?_)
    | (refine V_region1 fun k hk => ?_; simp [h0])
    | (refine V_drawV rfl (by kernel_rfl) (by kernel_rfl) fun k hk => ?_; simp [h0])
    | (refine V_drawE rfl (by kernel_rfl) (by kernel_rfl) (by simp [hn]) fun C k hC hk => ?_; simp [h0])
    | (refine HD2_nil (hC _ (by kernel_rfl)) (hk _ ?_); clear hC hk C k)
    | (refine HD2_val rfl ?_; simp [h0])
    | (refine HD2_chg rfl ?_; simp [h0])
    | (refine HD2_guardU rfl (by simp [h0]) ?_; simp [h0])
    | (refine HD2_guard rfl (by simp [h0]) (fun hc => ?_) (fun hc => ?_) <;> (try simp [h0] at hc) <;> (try (exfalso; omega)) <;> (try simp [h0]))
    | (refine V_block ?_)
        | (refine V_ret ?_)
    | (refine V_exit ?_)
    | (refine V_skip ?_)
    | (refine R_seq ?_)
    | (refine R_seq_ret ?_)
    | (refine R_seq_exit ?_)
    | (refine R_blk_ret ?_)
    | (refine R_blk ?_)
    | (refine R_blk_exit ?_)
    | (refine R_blk_other (by decide) ?_)
    | (refine R_loop_ret ?_)
    | (refine R_loop_exit ?_)
    | (refine R_loop ?_)
    | (refine R_done ?_)
    | (refine hk _ ?_; clear hk k)
    | (refine ⟨by omega, ?_⟩)
    | (refine ⟨?_, by omega⟩)
    | (refine ⟨fun hc => ?_, fun hc => ?_⟩ <;> (try (exfalso; omega)))
    | (refine V_cond rfl (fun hc => ?_) (fun hc => ?_) <;> (try simp [h0] at hc) <;> (try (exfalso; omega)))
    | (intro hc <;> (try (exfalso; omega))))
      refine EndW.wk _ (Wk.frz i [1] (e := 3) (sz := 1) (rows := stk r) (us := r.map fun n => [U.int .i64 n]) ?_ (stk_us r)) (EndW.here ?_)
      · simp [getK_setOb, getK_cons, hir, hi0, hi1]
      have hi1' : 1 ≠ i := Ne.symm hi1
      have hle : st'.length ≤ r.length := by
        have := congrArg List.length htk
        simp at this
        omega
      have hmt : (r.map fun n => [U.int .i64 n]).take st'.length = st'.map fun n => [U.int .i64 n] := by rw [← List.map_take, htk]
      (refine EndOK.val (.inr rfl) ?_; simp [resD, oneOrTup, pureD, Try.results11, frz_obs, frz_env, norm_obs, norm_env, frz, frzOb, normD, normU, norm1, normOb, h0, hir, hi0, hi1, hi1', hle, hmt])
  · subst hc
    have hS : stepV code vs ⟨pc, st, true, va, er⟩ = ⟨pc, st, true, va, er⟩ := rfl
    rw [hS]
    refine EndW.wk _ (Wk.frz j [1] (e := 3) (sz := 1) (rows := stk st) (us := st.map fun n => [U.int .i64 n]) ?_ (stk_us st)) (EndW.here ?_)
    · simp [getK_setOb, getK_cons, hv, hj0, hj1]
    (refine EndOK.val (.inr rfl) ?_; simp [resD, oneOrTup, pureD, Try.results11, frz_obs, frz_env, norm_obs, norm_env, frz, frzOb, normD, normU, norm1, normOb, hv, hj0, hj1, hj0', hj1', h0, h1])
end Go.Proofs.Ytblmompdcammeaa
