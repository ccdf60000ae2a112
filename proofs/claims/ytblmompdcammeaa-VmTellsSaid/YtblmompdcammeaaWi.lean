/- A step of the machine: the walk. -/
import Derived.Test.YtblmompdcammeaaWh
set_option linter.all false
namespace Go.Proofs.Ytblmompdcammeaa
open Go Go.VL
attribute [local simp] hcons hstep evPure opd uOf putOK St.put St.at getK binD binI binS binB nilD aggD eqUs cmpK shiftI arith unD convD pickD loadD cellsAt fieldAddrD fieldD indexAddrD indexD sliceD cutD lenD minmaxD nilCheckD buildD fillD cellsD isOne ones setAll mkAgg allU allocD boxD storeD St.add buildSliceD appendD rowsOf makeD setOb getK_setOb getK_del getK_cons stripL strip guardTmp entry chunks zcells valD argsV argsW argW argU1 argU0 argsU0 argsU1 calleeOf scalarD scalarU delAll effD St.effS applyW mkD rdIds lentIds callOf calleeOf freeOp D.ids Op.operands Call.operands isEffOp IntKind.bits allU2 allU2_append List.take_of_length_le List.range_succ
attribute [local irreducible] V G H HD HD2 RunK Eff CallP CallV EndOK Fun Ret FinOK LoopI
theorem needs_le (n : Int) : (0 ≤ needs n ∧ needs n ≤ 2) ∧ (needs n ≤ 0 → n = 0 ∨ n = 1 ∨ n = 12) ∧ (needs n ≤ 1 → n = 0 ∨ n = 1 ∨ n = 12 ∨ n = 11 ∨ n = 13 ∨ n = 14) := by
  unfold needs
  split <;> (try split) <;> omega
set_option maxHeartbeats 8000000 in
/-- The stack is not there. -/
theorem step_nil (code : List Ins) (vs : List Var) (pc : Int) (en : Bool) (va er : Int) (c : Ins) (o : List (Nat × Ob)) (nx : Nat) (hnx : 0 < nx) (hpc : 0 ≤ pc) (hcd : code[pc.toNat]? = some c) (h0 : getK o 0 = some (mbox pc (.u .nil) en va er)) :
    Ret Try.prog 15 [.ptr 0 0, .u (inss code), .u (vars vs)] o nx (fun _ o n => MOb (stepM code vs ⟨pc, [], en, va, er⟩) o n) := by
  have hlt := (List.getElem?_eq_some_iff.1 hcd).1
  have hn1 : 0 ≠ nx := by omega
  have hn2 : nx ≠ 0 := by omega
  have hne := needs_le c.op
  have hcf := contains_fun []
  have hif := indexVar_fun vs 30 [.row c.row 0] (fun v => decide (v.name = c.s)) (fun v _ => step2_fun v c) (by simp) (fun _ => rfl)
  simp only [ints, vars, Ins.row, List.map_nil, List.map_cons] at hcf hif
  have hst := stepM_eq (code := code) (vs := vs) (m := ⟨pc, [], en, va, er⟩) hpc hcd
  rcases idx_find vs (fun v => decide (v.name = c.s)) with ⟨hix, hfd⟩ | ⟨j, v, hix, hj, hfd⟩
  · rw [hix] at hif
    (refine Ret.of_body Try.func15 rfl (by simp) fun Γ hn => ?_); simp only [entry, List.zipIdx_cons, List.zipIdx_nil, List.map_cons, List.map_nil, Nat.zero_add, Try.ntmps15]
    simp only [mbox, inss, vars] at h0 ⊢
    refine V_len (x := 1) rfl fun hl => ?_
    simp at hl
    repeat' (first
    | (refine CallP.ret_ (end_ret _ _ _ _ _ _ _ _ _ (by simp [h0, hn1, hn2] <;> rfl)) (by rfl) (by first | assumption | simp) (by rfl) (by simp) ?_; rintro d o n' hn' ⟨hg, rfl⟩; (try simp at hn'); (try simp [hcd, h0, hn1, hn2]))
    | (refine CallP.ret_ (push_ret ⟨pc, [], en, va, er⟩ _ _ _ (by simp <;> omega) (.inl ⟨rfl, by simp [h0, hn1, hn2] <;> rfl⟩) (by simp) (by simp <;> omega)) (by rfl) (by first | assumption | simp) (by rfl) (by simp) ?_; rintro d o n' hn' hg; (try simp at hn'); (try simp [hcd, h0, hn1, hn2]))
    | (first | (refine CallV.fun_ (needs_fun c.op) (by rfl) (by first | assumption | (simp; done) | fail) (by first | (simp [hcd, h0, hn1, hn2]; done) | (simp [hcd, h0, hn1, hn2]; rfl)) (by first | (simp; done) | fail) ?_ <;> (try simp [hcd, h0, hn1, hn2])) | (refine CallP.fun_ (needs_fun c.op) (by rfl) (by first | assumption | (simp; done) | fail) (by first | (simp [hcd, h0, hn1, hn2]; done) | (simp [hcd, h0, hn1, hn2]; rfl)) (by first | (simp; done) | fail) (fun d hd => ?_); subst hd; (try simp [hcd, h0, hn1, hn2])))
    | (first | (refine CallV.fun_ (hcf) (by rfl) (by first | assumption | (simp; done) | fail) (by first | (simp [hcd, h0, hn1, hn2]; done) | (simp [hcd, h0, hn1, hn2]; rfl)) (by first | (simp; done) | fail) ?_ <;> (try simp [hcd, h0, hn1, hn2])) | (refine CallP.fun_ (hcf) (by rfl) (by first | assumption | (simp; done) | fail) (by first | (simp [hcd, h0, hn1, hn2]; done) | (simp [hcd, h0, hn1, hn2]; rfl)) (by first | (simp; done) | fail) (fun d hd => ?_); subst hd; (try simp [hcd, h0, hn1, hn2])))
    | (first | (refine CallV.fun_ (hif) (by rfl) (by first | assumption | (simp; done) | fail) (by first | (simp [hcd, h0, hn1, hn2]; done) | (simp [hcd, h0, hn1, hn2]; rfl)) (by first | (simp; done) | fail) ?_ <;> (try simp [hcd, h0, hn1, hn2])) | (refine CallP.fun_ (hif) (by rfl) (by first | assumption | (simp; done) | fail) (by first | (simp [hcd, h0, hn1, hn2]; done) | (simp [hcd, h0, hn1, hn2]; rfl)) (by first | (simp; done) | fail) (fun d hd => ?_); subst hd; (try simp [hcd, h0, hn1, hn2])))
    | (refine H_cons ?_; simp [hcd, h0, hn1, hn2])
    | (refine H_nil ?_)
    | (refine HD_nil ?_)
    | (refine HD_cons ?_; simp [hcd, h0, hn1, hn2])
    | (refine HD_guardU rfl (by simp [hcd, h0, hn1, hn2]) ?_; simp [hcd, h0, hn1, hn2])
    | (refine HD_guard rfl (by simp [hcd, h0, hn1, hn2]) (fun hc => ?_) (fun hc => ?_) <;> (try simp [hcd, h0, hn1, hn2] at hc) <;> (try (exfalso; omega)) <;> (try simp [hcd, h0, hn1, hn2]))
    | (refine V_seq ?_)
    | (refine V_region1 fun k hk => ?_; simp [hcd, h0, hn1, hn2])
    | (refine V_drawV rfl (by kernel_rfl) (by kernel_rfl) fun k hk => ?_; simp [hcd, h0, hn1, hn2])
    | (refine V_drawE rfl (by kernel_rfl) (by kernel_rfl) (by simp [hn]) fun C k hC hk => ?_; simp [hcd, h0, hn1, hn2])
    | (refine HD2_nil (hC _ (by kernel_rfl)) (hk _ ?_); clear hC hk C k)
    | (refine HD2_val rfl ?_; simp [hcd, h0, hn1, hn2])
    | (refine HD2_chg rfl ?_; simp [hcd, h0, hn1, hn2])
    | (refine HD2_guardU rfl (by simp [hcd, h0, hn1, hn2]) ?_; simp [hcd, h0, hn1, hn2])
    | (refine HD2_guard rfl (by simp [hcd, h0, hn1, hn2]) (fun hc => ?_) (fun hc => ?_) <;> (try simp [hcd, h0, hn1, hn2] at hc) <;> (try (exfalso; omega)) <;> (try simp [hcd, h0, hn1, hn2]))
    | (refine V_block ?_)
        | (refine V_ret ?_)
    | (refine V_exit ?_)
    | (refine V_skip ?_)
    | (refine R_seq ?_)
    | (refine R_seq_ret ?_)
    | (refine R_seq_exit ?_)
    | (refine R_blk_ret ?_)
    | (refine R_blk ?_)
    | (refine R_blk_exit ?_)
    | (refine R_blk_other (by decide) ?_)
    | (refine R_loop_ret ?_)
    | (refine R_loop_exit ?_)
    | (refine R_loop ?_)
    | (refine R_done ?_)
    | (refine hk _ ?_; clear hk k)
    | (refine ⟨by omega, ?_⟩)
    | (refine ⟨?_, by omega⟩)
    | (refine ⟨fun hc => ?_, fun hc => ?_⟩ <;> (try (exfalso; omega)))
    | (refine V_cond rfl (fun hc => ?_) (fun hc => ?_) <;> (try simp [hcd, h0, hn1, hn2] at hc) <;> (try (exfalso; omega)))
    | (intro hc <;> (try (exfalso; omega))))
    all_goals
      (first | (refine EndOK.fin (.inr rfl) ?_) | (refine EndOK.fin (.inl rfl) ?_)); simp [resD, oneOrTup, Try.results15]
      refine FinOK.here (by simp <;> omega) ?_
      rw [hst]
    · rw [if_neg (by simp <;> omega), stepI, if_pos ‹c.op = 0›]
      exact hg
    · rw [if_neg (by simp <;> omega), stepI, if_neg ‹¬c.op = 0›, if_pos ‹c.op = 1›, hfd]
      exact .inl ⟨rfl, hg⟩
    · rw [if_neg (by simp <;> omega), stepI, if_neg ‹¬c.op = 0›, if_neg ‹¬c.op = 1›, if_pos ‹c.op = 12›]
      exact .inl ⟨rfl, by simp [mbox, hn1]⟩
    all_goals
      rw [if_pos (by simp <;> omega)]
      exact .inl ⟨rfl, hg⟩
  · rw [hix] at hif
    have hj0 : (0 : Int) ≤ j := by omega
    (refine Ret.of_body Try.func15 rfl (by simp) fun Γ hn => ?_); simp only [entry, List.zipIdx_cons, List.zipIdx_nil, List.map_cons, List.map_nil, Nat.zero_add, Try.ntmps15]
    simp only [mbox, inss, vars] at h0 ⊢
    refine V_len (x := 1) rfl fun hl => ?_
    simp at hl
    repeat' (first
    | (refine CallP.ret_ (end_ret _ _ _ _ _ _ _ _ _ (by simp [h0, hn1, hn2] <;> rfl)) (by rfl) (by first | assumption | simp) (by rfl) (by simp) ?_; rintro d o n' hn' ⟨hg, rfl⟩; (try simp at hn'); (try simp [hcd, h0, hn1, hn2, hj]))
    | (refine CallP.ret_ (push_ret ⟨pc, [], en, va, er⟩ _ _ _ (by simp <;> omega) (.inl ⟨rfl, by simp [h0, hn1, hn2] <;> rfl⟩) (by simp) (by simp <;> omega)) (by rfl) (by first | assumption | simp) (by rfl) (by simp) ?_; rintro d o n' hn' hg; (try simp at hn'); (try simp [hcd, h0, hn1, hn2, hj]))
    | (first | (refine CallV.fun_ (needs_fun c.op) (by rfl) (by first | assumption | (simp; done) | fail) (by first | (simp [hcd, h0, hn1, hn2, hj]; done) | (simp [hcd, h0, hn1, hn2, hj]; rfl)) (by first | (simp; done) | fail) ?_ <;> (try simp [hcd, h0, hn1, hn2, hj])) | (refine CallP.fun_ (needs_fun c.op) (by rfl) (by first | assumption | (simp; done) | fail) (by first | (simp [hcd, h0, hn1, hn2, hj]; done) | (simp [hcd, h0, hn1, hn2, hj]; rfl)) (by first | (simp; done) | fail) (fun d hd => ?_); subst hd; (try simp [hcd, h0, hn1, hn2, hj])))
    | (first | (refine CallV.fun_ (hcf) (by rfl) (by first | assumption | (simp; done) | fail) (by first | (simp [hcd, h0, hn1, hn2, hj]; done) | (simp [hcd, h0, hn1, hn2, hj]; rfl)) (by first | (simp; done) | fail) ?_ <;> (try simp [hcd, h0, hn1, hn2, hj])) | (refine CallP.fun_ (hcf) (by rfl) (by first | assumption | (simp; done) | fail) (by first | (simp [hcd, h0, hn1, hn2, hj]; done) | (simp [hcd, h0, hn1, hn2, hj]; rfl)) (by first | (simp; done) | fail) (fun d hd => ?_); subst hd; (try simp [hcd, h0, hn1, hn2, hj])))
    | (first | (refine CallV.fun_ (hif) (by rfl) (by first | assumption | (simp; done) | fail) (by first | (simp [hcd, h0, hn1, hn2, hj]; done) | (simp [hcd, h0, hn1, hn2, hj]; rfl)) (by first | (simp; done) | fail) ?_ <;> (try simp [hcd, h0, hn1, hn2, hj])) | (refine CallP.fun_ (hif) (by rfl) (by first | assumption | (simp; done) | fail) (by first | (simp [hcd, h0, hn1, hn2, hj]; done) | (simp [hcd, h0, hn1, hn2, hj]; rfl)) (by first | (simp; done) | fail) (fun d hd => ?_); subst hd; (try simp [hcd, h0, hn1, hn2, hj])))
    | (refine H_cons ?_; simp [hcd, h0, hn1, hn2, hj])
    | (refine H_nil ?_)
    | (refine HD_nil ?_)
    | (refine HD_cons ?_; simp [hcd, h0, hn1, hn2, hj])
    | (refine HD_guardU rfl (by simp [hcd, h0, hn1, hn2, hj]) ?_; simp [hcd, h0, hn1, hn2, hj])
    | (refine HD_guard rfl (by simp [hcd, h0, hn1, hn2, hj]) (fun hc => ?_) (fun hc => ?_) <;> (try simp [hcd, h0, hn1, hn2, hj] at hc) <;> (try (exfalso; omega)) <;> (try simp [hcd, h0, hn1, hn2, hj]))
    | (refine V_seq ?_)
    | (refine V_region1 fun k hk => ?_; simp [hcd, h0, hn1, hn2, hj])
    | (refine V_drawV rfl (by kernel_rfl) (by kernel_rfl) fun k hk => ?_; simp [hcd, h0, hn1, hn2, hj])
    | (refine V_drawE rfl (by kernel_rfl) (by kernel_rfl) (by simp [hn]) fun C k hC hk => ?_; simp [hcd, h0, hn1, hn2, hj])
    | (refine HD2_nil (hC _ (by kernel_rfl)) (hk _ ?_); clear hC hk C k)
    | (refine HD2_val rfl ?_; simp [hcd, h0, hn1, hn2, hj])
    | (refine HD2_chg rfl ?_; simp [hcd, h0, hn1, hn2, hj])
    | (refine HD2_guardU rfl (by simp [hcd, h0, hn1, hn2, hj]) ?_; simp [hcd, h0, hn1, hn2, hj])
    | (refine HD2_guard rfl (by simp [hcd, h0, hn1, hn2, hj]) (fun hc => ?_) (fun hc => ?_) <;> (try simp [hcd, h0, hn1, hn2, hj] at hc) <;> (try (exfalso; omega)) <;> (try simp [hcd, h0, hn1, hn2, hj]))
    | (refine V_block ?_)
        | (refine V_ret ?_)
    | (refine V_exit ?_)
    | (refine V_skip ?_)
    | (refine R_seq ?_)
    | (refine R_seq_ret ?_)
    | (refine R_seq_exit ?_)
    | (refine R_blk_ret ?_)
    | (refine R_blk ?_)
    | (refine R_blk_exit ?_)
    | (refine R_blk_other (by decide) ?_)
    | (refine R_loop_ret ?_)
    | (refine R_loop_exit ?_)
    | (refine R_loop ?_)
    | (refine R_done ?_)
    | (refine hk _ ?_; clear hk k)
    | (refine ⟨by omega, ?_⟩)
    | (refine ⟨?_, by omega⟩)
    | (refine ⟨fun hc => ?_, fun hc => ?_⟩ <;> (try (exfalso; omega)))
    | (refine V_cond rfl (fun hc => ?_) (fun hc => ?_) <;> (try simp [hcd, h0, hn1, hn2, hj] at hc) <;> (try (exfalso; omega)))
    | (intro hc <;> (try (exfalso; omega))))
    all_goals
      (first | (refine EndOK.fin (.inr rfl) ?_) | (refine EndOK.fin (.inl rfl) ?_)); simp [resD, oneOrTup, Try.results15]
      refine FinOK.here (by simp <;> omega) ?_
      rw [hst]
    · rw [if_neg (by simp <;> omega), stepI, if_pos ‹c.op = 0›]
      exact hg
    · rw [if_neg (by simp <;> omega), stepI, if_neg ‹¬c.op = 0›, if_pos ‹c.op = 1›, hfd]
      exact hg
    · rw [if_neg (by simp <;> omega), stepI, if_neg ‹¬c.op = 0›, if_neg ‹¬c.op = 1›, if_pos ‹c.op = 12›]
      exact .inl ⟨rfl, by simp [mbox, hn1]⟩
    all_goals
      rw [if_pos (by simp <;> omega)]
      exact .inl ⟨rfl, hg⟩
end Go.Proofs.Ytblmompdcammeaa
