/- A step of the machine on a stack. -/
import Derived.Test.YtblmompdcammeaaWi
set_option linter.all false
namespace Go.Proofs.Ytblmompdcammeaa
open Go Go.VL
attribute [local simp] hcons hstep evPure opd uOf putOK St.put St.at getK binD binI binS binB nilD aggD eqUs cmpK shiftI arith unD convD pickD loadD cellsAt fieldAddrD fieldD indexAddrD indexD sliceD cutD lenD minmaxD nilCheckD buildD fillD cellsD isOne ones setAll mkAgg allU allocD boxD storeD St.add buildSliceD appendD rowsOf makeD setOb getK_setOb getK_del getK_cons stripL strip guardTmp entry chunks zcells valD argsV argsW argW argU1 argU0 argsU0 argsU1 calleeOf scalarD scalarU delAll effD St.effS applyW mkD rdIds lentIds callOf calleeOf freeOp D.ids Op.operands Call.operands isEffOp IntKind.bits allU2 allU2_append List.take_of_length_le List.range_succ
attribute [local irreducible] V G H HD HD2 RunK Eff CallP CallV EndOK Fun Ret FinOK LoopI LoopW EndW
set_option maxHeartbeats 16000000 in
theorem step_1 (code : List Ins) (vs : List Var) (pc : Int) (en : Bool) (va er : Int) (c : Ins) (o : List (Nat × Ob)) (nx : Nat) (i : Nat) (r : List Int) (x : Int) (hpc : 0 ≤ pc) (hcd : code[pc.toNat]? = some c)
    (hi : i ≠ 0) (hinx : i < nx) (hr : r.take ([x]).length = [x]) (hany : (([x]).any fun n => !okv n) = false) (hlen : ([x]).length < 100000)
    (h0 : getK o 0 = some (mbox pc (.vec i ([x]).length) en va er)) (h1 : getK o i = some (.vec 3 1 (stk r))) :
    Ret Try.prog 15 [.ptr 0 0, .u (inss code), .u (vars vs)] o nx (fun _ o n => MOb (stepM code vs ⟨pc, [x], en, va, er⟩) o n) := by
  have hlt := (List.getElem?_eq_some_iff.1 hcd).1
  have hrl : ([x]).length ≤ r.length := by
    have := congrArg List.length hr
    rw [List.length_take] at this
    omega
  have hrs : (stk r).take ([x]).length = stk ([x]) := by rw [stk, ← List.map_take, hr]; rfl
  have hi1 : 0 ≠ i := by omega
  have hin1 : nx ≠ i := by omega
  have hin' : i ≠ nx := by omega
  have hn1 : 0 ≠ nx := by omega
  have hn2 : nx ≠ 0 := by omega
  have hne := needs_le c.op
  have hcf := contains_fun ([x])
  rw [show (([x]).any fun n => !decide (-1099511627776 ≤ n ∧ n ≤ 1099511627776)) = false from hany] at hcf
  have hif := indexVar_fun vs 30 [.row c.row 0] (fun v => decide (v.name = c.s)) (fun v _ => step2_fun v c) (by simp) (fun _ => rfl)
  have hst := stepM_eq (code := code) (vs := vs) (m := ⟨pc, [x], en, va, er⟩) hpc hcd
  have hx0 : r[0]? = some x := by
    have := congrArg (·[0]?) hr
    simpa [List.getElem?_take] using this
  have hxv : -1099511627776 ≤ x ∧ x ≤ 1099511627776 := by simpa [okv] using hany
  have htop : Mach.top ⟨pc, [x], en, va, er⟩ 0 = x := by simp [Mach.top]
  have hdrop : Mach.drop ⟨pc, [x], en, va, er⟩ 1 = ⟨pc, [], en, va, er⟩ := by simp [Mach.drop]
  simp only [ints, vars, Ins.row, List.map_nil, List.map_cons] at hcf hif
  simp at hcf hrl hrs h0
  rcases idx_find vs (fun v => decide (v.name = c.s)) with ⟨hix, hfd⟩ | ⟨j, v, hix, hj, hfd⟩
  · rw [hix] at hif
    (refine Ret.of_body Try.func15 rfl (by simp) fun Γ hn => ?_); simp only [entry, List.zipIdx_cons, List.zipIdx_nil, List.map_cons, List.map_nil, Nat.zero_add, Try.ntmps15]
    simp only [mbox, inss, vars] at h0 ⊢
    refine V_len (x := 1) rfl fun hl => ?_
    simp at hl
    repeat' (first
    | (refine CallP.ret_ (end_ret _ _ _ _ _ _ _ _ _ (by first | (simp [hcd, h0, h1, hi, hi1, hin1, hin', hn1, hn2, hrs, hrl, allU2_stk]; done) | (simp [hcd, h0, h1, hi, hi1, hin1, hin', hn1, hn2, hrs, hrl, allU2_stk]; rfl))) (by rfl) (by first | assumption | simp) (by rfl) (by simp) ?_; rintro d o n' hn' ⟨hg, rfl⟩; (try simp at hn'); (try simp [hcd, h0, h1, hi, hi1, hin1, hin', hn1, hn2, hrs, hrl, allU2_stk, mbox]))
    | (refine CallP.ret_ (pop_ret _ _ _ (0) x en va er i r hi (by first | (simp [hcd, h0, h1, hi, hi1, hin1, hin', hn1, hn2, hrs, hrl, allU2_stk]; done) | (simp [hcd, h0, h1, hi, hi1, hin1, hin', hn1, hn2, hrs, hrl, allU2_stk]; rfl)) (by first | (simp [hcd, h0, h1, hi, hi1, hin1, hin', hn1, hn2, hrs, hrl, allU2_stk]; done) | fail) (by assumption)) (by rfl) (by first | assumption | simp) (by rfl) (by simp) ?_; rintro d o n' hn' ⟨rfl, rfl, rfl⟩; (try simp at hn'); (try simp [hcd, h0, h1, hi, hi1, hin1, hin', hn1, hn2, hrs, hrl, allU2_stk, mbox]))
    | (refine CallP.ret_ (push_ret ⟨pc, [x], en, va, er⟩ _ _ _ (by first | (simp; done) | (simp; omega)) (.inr ⟨i, r, hi, (by first | (simp; done) | (simp; omega)), hr, (by first | (simp [hcd, h0, h1, hi, hi1, hin1, hin', hn1, hn2, hrs, hrl, allU2_stk]; done) | (simp [hcd, h0, h1, hi, hi1, hin1, hin', hn1, hn2, hrs, hrl, allU2_stk]; rfl)), (by first | (simp [hcd, h0, h1, hi, hi1, hin1, hin', hn1, hn2, hrs, hrl, allU2_stk]; done) | fail)⟩) (by first | (simp; done) | (simp; omega)) (by first | (simp; done) | (simp; omega))) (by rfl) (by first | assumption | simp) (by rfl) (by simp) ?_; rintro d o n' hn' hg; (try simp at hn'); (try simp [hcd, h0, h1, hi, hi1, hin1, hin', hn1, hn2, hrs, hrl, allU2_stk, mbox]))
    | (refine CallP.ret_ (push_ret ⟨pc, [], en, va, er⟩ _ _ _ (by first | (simp; done) | (simp; omega)) (.inr ⟨i, r, hi, (by first | (simp; done) | (simp; omega)), rfl, (by first | (simp [hcd, h0, h1, hi, hi1, hin1, hin', hn1, hn2, hrs, hrl, allU2_stk]; done) | (simp [hcd, h0, h1, hi, hi1, hin1, hin', hn1, hn2, hrs, hrl, allU2_stk]; rfl)), (by first | (simp [hcd, h0, h1, hi, hi1, hin1, hin', hn1, hn2, hrs, hrl, allU2_stk]; done) | fail)⟩) (by first | (simp; done) | (simp; omega)) (by first | (simp; done) | (simp; omega))) (by rfl) (by first | assumption | simp) (by rfl) (by simp) ?_; rintro d o n' hn' hg; (try simp at hn'); (try simp [hcd, h0, h1, hi, hi1, hin1, hin', hn1, hn2, hrs, hrl, allU2_stk, mbox]))
    | (first | (refine CallV.fun_ (needs_fun c.op) (by rfl) (by first | assumption | (simp; done) | fail) (by first | (simp [hcd, h0, h1, hi, hi1, hin1, hin', hn1, hn2, hrs, hrl, allU2_stk, mbox]; done) | (simp [hcd, h0, h1, hi, hi1, hin1, hin', hn1, hn2, hrs, hrl, allU2_stk, mbox]; rfl)) (by first | (simp; done) | fail) ?_ <;> (try simp [hcd, h0, h1, hi, hi1, hin1, hin', hn1, hn2, hrs, hrl, allU2_stk, mbox])) | (refine CallP.fun_ (needs_fun c.op) (by rfl) (by first | assumption | (simp; done) | fail) (by first | (simp [hcd, h0, h1, hi, hi1, hin1, hin', hn1, hn2, hrs, hrl, allU2_stk, mbox]; done) | (simp [hcd, h0, h1, hi, hi1, hin1, hin', hn1, hn2, hrs, hrl, allU2_stk, mbox]; rfl)) (by first | (simp; done) | fail) (fun d hd => ?_); subst hd; (try simp [hcd, h0, h1, hi, hi1, hin1, hin', hn1, hn2, hrs, hrl, allU2_stk, mbox])))
    | (first | (refine CallV.fun_ (hcf) (by rfl) (by first | assumption | (simp; done) | fail) (by first | (simp [hcd, h0, h1, hi, hi1, hin1, hin', hn1, hn2, hrs, hrl, allU2_stk, mbox]; done) | (simp [hcd, h0, h1, hi, hi1, hin1, hin', hn1, hn2, hrs, hrl, allU2_stk, mbox]; rfl)) (by first | (simp; done) | fail) ?_ <;> (try simp [hcd, h0, h1, hi, hi1, hin1, hin', hn1, hn2, hrs, hrl, allU2_stk, mbox])) | (refine CallP.fun_ (hcf) (by rfl) (by first | assumption | (simp; done) | fail) (by first | (simp [hcd, h0, h1, hi, hi1, hin1, hin', hn1, hn2, hrs, hrl, allU2_stk, mbox]; done) | (simp [hcd, h0, h1, hi, hi1, hin1, hin', hn1, hn2, hrs, hrl, allU2_stk, mbox]; rfl)) (by first | (simp; done) | fail) (fun d hd => ?_); subst hd; (try simp [hcd, h0, h1, hi, hi1, hin1, hin', hn1, hn2, hrs, hrl, allU2_stk, mbox])))
    | (first | (refine CallV.fun_ (hif) (by rfl) (by first | assumption | (simp; done) | fail) (by first | (simp [hcd, h0, h1, hi, hi1, hin1, hin', hn1, hn2, hrs, hrl, allU2_stk, mbox]; done) | (simp [hcd, h0, h1, hi, hi1, hin1, hin', hn1, hn2, hrs, hrl, allU2_stk, mbox]; rfl)) (by first | (simp; done) | fail) ?_ <;> (try simp [hcd, h0, h1, hi, hi1, hin1, hin', hn1, hn2, hrs, hrl, allU2_stk, mbox])) | (refine CallP.fun_ (hif) (by rfl) (by first | assumption | (simp; done) | fail) (by first | (simp [hcd, h0, h1, hi, hi1, hin1, hin', hn1, hn2, hrs, hrl, allU2_stk, mbox]; done) | (simp [hcd, h0, h1, hi, hi1, hin1, hin', hn1, hn2, hrs, hrl, allU2_stk, mbox]; rfl)) (by first | (simp; done) | fail) (fun d hd => ?_); subst hd; (try simp [hcd, h0, h1, hi, hi1, hin1, hin', hn1, hn2, hrs, hrl, allU2_stk, mbox])))
    | (first | (refine CallV.fun_ (truth_fun (decide (x = 0))) (by rfl) (by first | assumption | (simp; done) | fail) (by first | (simp [hcd, h0, h1, hi, hi1, hin1, hin', hn1, hn2, hrs, hrl, allU2_stk, mbox]; done) | (simp [hcd, h0, h1, hi, hi1, hin1, hin', hn1, hn2, hrs, hrl, allU2_stk, mbox]; rfl)) (by first | (simp; done) | fail) ?_ <;> (try simp [hcd, h0, h1, hi, hi1, hin1, hin', hn1, hn2, hrs, hrl, allU2_stk, mbox])) | (refine CallP.fun_ (truth_fun (decide (x = 0))) (by rfl) (by first | assumption | (simp; done) | fail) (by first | (simp [hcd, h0, h1, hi, hi1, hin1, hin', hn1, hn2, hrs, hrl, allU2_stk, mbox]; done) | (simp [hcd, h0, h1, hi, hi1, hin1, hin', hn1, hn2, hrs, hrl, allU2_stk, mbox]; rfl)) (by first | (simp; done) | fail) (fun d hd => ?_); subst hd; (try simp [hcd, h0, h1, hi, hi1, hin1, hin', hn1, hn2, hrs, hrl, allU2_stk, mbox])))
    | (refine H_cons ?_; simp [hcd, h0, h1, hi, hi1, hin1, hin', hn1, hn2, hrs, hrl, allU2_stk, mbox])
    | (refine H_nil ?_)
    | (refine HD_nil ?_)
    | (refine HD_cons ?_; simp [hcd, h0, h1, hi, hi1, hin1, hin', hn1, hn2, hrs, hrl, allU2_stk, mbox])
    | (refine HD_guardU rfl (by simp [hcd, h0, h1, hi, hi1, hin1, hin', hn1, hn2, hrs, hrl, allU2_stk, mbox]) ?_; simp [hcd, h0, h1, hi, hi1, hin1, hin', hn1, hn2, hrs, hrl, allU2_stk, mbox])
    | (refine HD_guard rfl (by simp [hcd, h0, h1, hi, hi1, hin1, hin', hn1, hn2, hrs, hrl, allU2_stk, mbox]) (fun hc => ?_) (fun hc => ?_) <;> (try simp [hcd, h0, h1, hi, hi1, hin1, hin', hn1, hn2, hrs, hrl, allU2_stk, mbox] at hc) <;> (try (exfalso; omega)) <;> (try simp [hcd, h0, h1, hi, hi1, hin1, hin', hn1, hn2, hrs, hrl, allU2_stk, mbox]))
    | (refine V_seq ?_)
    | (refine V_region1 fun k hk => ?_; simp [hcd, h0, h1, hi, hi1, hin1, hin', hn1, hn2, hrs, hrl, allU2_stk, mbox])
    | (refine V_drawV rfl (by kernel_rfl) (by kernel_rfl) fun k hk => ?_; simp [hcd, h0, h1, hi, hi1, hin1, hin', hn1, hn2, hrs, hrl, allU2_stk, mbox])
    | (refine V_drawE rfl (by kernel_rfl) (by kernel_rfl) (by simp [hn]) fun C k hC hk => ?_; simp [hcd, h0, h1, hi, hi1, hin1, hin', hn1, hn2, hrs, hrl, allU2_stk, mbox])
    | (refine HD2_nil (hC _ (by kernel_rfl)) (hk _ ?_); clear hC hk C k)
    | (refine HD2_val rfl ?_; simp [hcd, h0, h1, hi, hi1, hin1, hin', hn1, hn2, hrs, hrl, allU2_stk, mbox])
    | (refine HD2_chg rfl ?_; simp [hcd, h0, h1, hi, hi1, hin1, hin', hn1, hn2, hrs, hrl, allU2_stk, mbox])
    | (refine HD2_guardU rfl (by simp [hcd, h0, h1, hi, hi1, hin1, hin', hn1, hn2, hrs, hrl, allU2_stk, mbox]) ?_; simp [hcd, h0, h1, hi, hi1, hin1, hin', hn1, hn2, hrs, hrl, allU2_stk, mbox])
    | (refine HD2_guard rfl (by simp [hcd, h0, h1, hi, hi1, hin1, hin', hn1, hn2, hrs, hrl, allU2_stk, mbox]) (fun hc => ?_) (fun hc => ?_) <;> (try simp [hcd, h0, h1, hi, hi1, hin1, hin', hn1, hn2, hrs, hrl, allU2_stk, mbox] at hc) <;> (try (exfalso; omega)) <;> (try simp [hcd, h0, h1, hi, hi1, hin1, hin', hn1, hn2, hrs, hrl, allU2_stk, mbox]))
    | (refine V_block ?_)
        | (refine V_ret ?_)
    | (refine V_exit ?_)
    | (refine V_skip ?_)
    | (refine R_seq ?_)
    | (refine R_seq_ret ?_)
    | (refine R_seq_exit ?_)
    | (refine R_blk_ret ?_)
    | (refine R_blk ?_)
    | (refine R_blk_exit ?_)
    | (refine R_blk_other (by decide) ?_)
    | (refine R_loop_ret ?_)
    | (refine R_loop_exit ?_)
    | (refine R_loop ?_)
    | (refine R_done ?_)
    | (refine hk _ ?_; clear hk k)
    | (refine ⟨by omega, ?_⟩)
    | (refine ⟨?_, by omega⟩)
    | (refine ⟨fun hc => ?_, fun hc => ?_⟩ <;> (try (exfalso; omega)))
    | (refine V_cond rfl (fun hc => ?_) (fun hc => ?_) <;> (try simp [hcd, h0, h1, hi, hi1, hin1, hin', hn1, hn2, hrs, hrl, allU2_stk, mbox] at hc) <;> (try (exfalso; omega)))
    | (intro hc <;> (try (exfalso; omega))))
    all_goals
      (first | (refine EndOK.fin (.inr rfl) ?_) | (refine EndOK.fin (.inl rfl) ?_)); simp [resD, oneOrTup, Try.results15]
      refine FinOK.here (by simp <;> omega) ?_
      rw [hst]
    · rw [if_neg (by simp [hany] <;> omega), stepI, if_pos ‹c.op = 0›]
      exact hg
    · rw [if_neg (by simp [hany] <;> omega), stepI, if_neg ‹¬c.op = 0›, if_pos ‹c.op = 1›, hfd]
      exact .inl ⟨rfl, hg⟩
    · rw [if_neg (by simp [hany] <;> omega), stepI, if_neg ‹¬c.op = 0›, if_neg ‹¬c.op = 1›, if_pos ‹c.op = 12›]
      exact .inr ⟨i, r, hi, by simp <;> omega, hr, by simp [mbox, hcd, h0, h1, hi, hi1, hin1, hin', hn1, hn2, hrs, hrl, allU2_stk], by simp [hcd, h0, h1, hi, hi1, hin1, hin', hn1, hn2, hrs, hrl, allU2_stk]⟩
    · rw [if_neg (by simp [hany] <;> omega), stepI, if_neg ‹¬c.op = 0›, if_neg ‹¬c.op = 1›, if_neg ‹¬c.op = 12›, if_pos ‹c.op = 13›, htop, hdrop, if_pos ‹x = 0›]
      exact .inr ⟨i, r, hi, by simp <;> omega, rfl, by simp [mbox, hcd, h0, h1, hi, hi1, hin1, hin', hn1, hn2, hrs, hrl, allU2_stk], by simp [hcd, h0, h1, hi, hi1, hin1, hin', hn1, hn2, hrs, hrl, allU2_stk]⟩
    · rw [if_neg (by simp [hany] <;> omega), stepI, if_neg ‹¬c.op = 0›, if_neg ‹¬c.op = 1›, if_neg ‹¬c.op = 12›, if_pos ‹c.op = 13›, htop, hdrop, if_neg ‹¬x = 0›]
      exact .inr ⟨i, r, hi, by simp <;> omega, rfl, by simp [mbox, hcd, h0, h1, hi, hi1, hin1, hin', hn1, hn2, hrs, hrl, allU2_stk], by simp [hcd, h0, h1, hi, hi1, hin1, hin', hn1, hn2, hrs, hrl, allU2_stk]⟩
    · rw [if_neg (by simp [hany] <;> omega), stepI, if_neg ‹¬c.op = 0›, if_neg ‹¬c.op = 1›, if_neg ‹¬c.op = 12›, if_neg ‹¬c.op = 13›, if_pos ‹c.op = 14›, htop]
      exact .inl ⟨rfl, hg⟩
    · rw [if_neg (by simp [hany] <;> omega), stepI, if_neg ‹¬c.op = 0›, if_neg ‹¬c.op = 1›, if_neg ‹¬c.op = 12›, if_neg ‹¬c.op = 13›, if_neg ‹¬c.op = 14›, if_pos ‹c.op = 11›, htop, hdrop]
      simp only [Pm.truth, decide_eq_true_eq]
      exact hg
    all_goals
      rw [if_pos (by simp [hany] <;> omega)]
      exact .inl ⟨rfl, hg⟩
  · rw [hix] at hif
    have hj0 : (0 : Int) ≤ j := by omega
    (refine Ret.of_body Try.func15 rfl (by simp) fun Γ hn => ?_); simp only [entry, List.zipIdx_cons, List.zipIdx_nil, List.map_cons, List.map_nil, Nat.zero_add, Try.ntmps15]
    simp only [mbox, inss, vars] at h0 ⊢
    refine V_len (x := 1) rfl fun hl => ?_
    simp at hl
    repeat' (first
    | (refine CallP.ret_ (end_ret _ _ _ _ _ _ _ _ _ (by first | (simp [hcd, h0, h1, hi, hi1, hin1, hin', hn1, hn2, hrs, hrl, allU2_stk]; done) | (simp [hcd, h0, h1, hi, hi1, hin1, hin', hn1, hn2, hrs, hrl, allU2_stk]; rfl))) (by rfl) (by first | assumption | simp) (by rfl) (by simp) ?_; rintro d o n' hn' ⟨hg, rfl⟩; (try simp at hn'); (try simp [hcd, h0, h1, hi, hi1, hin1, hin', hn1, hn2, hrs, hrl, allU2_stk, mbox, hj]))
    | (refine CallP.ret_ (pop_ret _ _ _ (0) x en va er i r hi (by first | (simp [hcd, h0, h1, hi, hi1, hin1, hin', hn1, hn2, hrs, hrl, allU2_stk]; done) | (simp [hcd, h0, h1, hi, hi1, hin1, hin', hn1, hn2, hrs, hrl, allU2_stk]; rfl)) (by first | (simp [hcd, h0, h1, hi, hi1, hin1, hin', hn1, hn2, hrs, hrl, allU2_stk]; done) | fail) (by assumption)) (by rfl) (by first | assumption | simp) (by rfl) (by simp) ?_; rintro d o n' hn' ⟨rfl, rfl, rfl⟩; (try simp at hn'); (try simp [hcd, h0, h1, hi, hi1, hin1, hin', hn1, hn2, hrs, hrl, allU2_stk, mbox, hj]))
    | (refine CallP.ret_ (push_ret ⟨pc, [x], en, va, er⟩ _ _ _ (by first | (simp; done) | (simp; omega)) (.inr ⟨i, r, hi, (by first | (simp; done) | (simp; omega)), hr, (by first | (simp [hcd, h0, h1, hi, hi1, hin1, hin', hn1, hn2, hrs, hrl, allU2_stk]; done) | (simp [hcd, h0, h1, hi, hi1, hin1, hin', hn1, hn2, hrs, hrl, allU2_stk]; rfl)), (by first | (simp [hcd, h0, h1, hi, hi1, hin1, hin', hn1, hn2, hrs, hrl, allU2_stk]; done) | fail)⟩) (by first | (simp; done) | (simp; omega)) (by first | (simp; done) | (simp; omega))) (by rfl) (by first | assumption | simp) (by rfl) (by simp) ?_; rintro d o n' hn' hg; (try simp at hn'); (try simp [hcd, h0, h1, hi, hi1, hin1, hin', hn1, hn2, hrs, hrl, allU2_stk, mbox, hj]))
    | (refine CallP.ret_ (push_ret ⟨pc, [], en, va, er⟩ _ _ _ (by first | (simp; done) | (simp; omega)) (.inr ⟨i, r, hi, (by first | (simp; done) | (simp; omega)), rfl, (by first | (simp [hcd, h0, h1, hi, hi1, hin1, hin', hn1, hn2, hrs, hrl, allU2_stk]; done) | (simp [hcd, h0, h1, hi, hi1, hin1, hin', hn1, hn2, hrs, hrl, allU2_stk]; rfl)), (by first | (simp [hcd, h0, h1, hi, hi1, hin1, hin', hn1, hn2, hrs, hrl, allU2_stk]; done) | fail)⟩) (by first | (simp; done) | (simp; omega)) (by first | (simp; done) | (simp; omega))) (by rfl) (by first | assumption | simp) (by rfl) (by simp) ?_; rintro d o n' hn' hg; (try simp at hn'); (try simp [hcd, h0, h1, hi, hi1, hin1, hin', hn1, hn2, hrs, hrl, allU2_stk, mbox, hj]))
    | (first | (refine CallV.fun_ (needs_fun c.op) (by rfl) (by first | assumption | (simp; done) | fail) (by first | (simp [hcd, h0, h1, hi, hi1, hin1, hin', hn1, hn2, hrs, hrl, allU2_stk, mbox, hj]; done) | (simp [hcd, h0, h1, hi, hi1, hin1, hin', hn1, hn2, hrs, hrl, allU2_stk, mbox, hj]; rfl)) (by first | (simp; done) | fail) ?_ <;> (try simp [hcd, h0, h1, hi, hi1, hin1, hin', hn1, hn2, hrs, hrl, allU2_stk, mbox, hj])) | (refine CallP.fun_ (needs_fun c.op) (by rfl) (by first | assumption | (simp; done) | fail) (by first | (simp [hcd, h0, h1, hi, hi1, hin1, hin', hn1, hn2, hrs, hrl, allU2_stk, mbox, hj]; done) | (simp [hcd, h0, h1, hi, hi1, hin1, hin', hn1, hn2, hrs, hrl, allU2_stk, mbox, hj]; rfl)) (by first | (simp; done) | fail) (fun d hd => ?_); subst hd; (try simp [hcd, h0, h1, hi, hi1, hin1, hin', hn1, hn2, hrs, hrl, allU2_stk, mbox, hj])))
    | (first | (refine CallV.fun_ (hcf) (by rfl) (by first | assumption | (simp; done) | fail) (by first | (simp [hcd, h0, h1, hi, hi1, hin1, hin', hn1, hn2, hrs, hrl, allU2_stk, mbox, hj]; done) | (simp [hcd, h0, h1, hi, hi1, hin1, hin', hn1, hn2, hrs, hrl, allU2_stk, mbox, hj]; rfl)) (by first | (simp; done) | fail) ?_ <;> (try simp [hcd, h0, h1, hi, hi1, hin1, hin', hn1, hn2, hrs, hrl, allU2_stk, mbox, hj])) | (refine CallP.fun_ (hcf) (by rfl) (by first | assumption | (simp; done) | fail) (by first | (simp [hcd, h0, h1, hi, hi1, hin1, hin', hn1, hn2, hrs, hrl, allU2_stk, mbox, hj]; done) | (simp [hcd, h0, h1, hi, hi1, hin1, hin', hn1, hn2, hrs, hrl, allU2_stk, mbox, hj]; rfl)) (by first | (simp; done) | fail) (fun d hd => ?_); subst hd; (try simp [hcd, h0, h1, hi, hi1, hin1, hin', hn1, hn2, hrs, hrl, allU2_stk, mbox, hj])))
    | (first | (refine CallV.fun_ (hif) (by rfl) (by first | assumption | (simp; done) | fail) (by first | (simp [hcd, h0, h1, hi, hi1, hin1, hin', hn1, hn2, hrs, hrl, allU2_stk, mbox, hj]; done) | (simp [hcd, h0, h1, hi, hi1, hin1, hin', hn1, hn2, hrs, hrl, allU2_stk, mbox, hj]; rfl)) (by first | (simp; done) | fail) ?_ <;> (try simp [hcd, h0, h1, hi, hi1, hin1, hin', hn1, hn2, hrs, hrl, allU2_stk, mbox, hj])) | (refine CallP.fun_ (hif) (by rfl) (by first | assumption | (simp; done) | fail) (by first | (simp [hcd, h0, h1, hi, hi1, hin1, hin', hn1, hn2, hrs, hrl, allU2_stk, mbox, hj]; done) | (simp [hcd, h0, h1, hi, hi1, hin1, hin', hn1, hn2, hrs, hrl, allU2_stk, mbox, hj]; rfl)) (by first | (simp; done) | fail) (fun d hd => ?_); subst hd; (try simp [hcd, h0, h1, hi, hi1, hin1, hin', hn1, hn2, hrs, hrl, allU2_stk, mbox, hj])))
    | (first | (refine CallV.fun_ (truth_fun (decide (x = 0))) (by rfl) (by first | assumption | (simp; done) | fail) (by first | (simp [hcd, h0, h1, hi, hi1, hin1, hin', hn1, hn2, hrs, hrl, allU2_stk, mbox, hj]; done) | (simp [hcd, h0, h1, hi, hi1, hin1, hin', hn1, hn2, hrs, hrl, allU2_stk, mbox, hj]; rfl)) (by first | (simp; done) | fail) ?_ <;> (try simp [hcd, h0, h1, hi, hi1, hin1, hin', hn1, hn2, hrs, hrl, allU2_stk, mbox, hj])) | (refine CallP.fun_ (truth_fun (decide (x = 0))) (by rfl) (by first | assumption | (simp; done) | fail) (by first | (simp [hcd, h0, h1, hi, hi1, hin1, hin', hn1, hn2, hrs, hrl, allU2_stk, mbox, hj]; done) | (simp [hcd, h0, h1, hi, hi1, hin1, hin', hn1, hn2, hrs, hrl, allU2_stk, mbox, hj]; rfl)) (by first | (simp; done) | fail) (fun d hd => ?_); subst hd; (try simp [hcd, h0, h1, hi, hi1, hin1, hin', hn1, hn2, hrs, hrl, allU2_stk, mbox, hj])))
    | (refine H_cons ?_; simp [hcd, h0, h1, hi, hi1, hin1, hin', hn1, hn2, hrs, hrl, allU2_stk, mbox, hj])
    | (refine H_nil ?_)
    | (refine HD_nil ?_)
    | (refine HD_cons ?_; simp [hcd, h0, h1, hi, hi1, hin1, hin', hn1, hn2, hrs, hrl, allU2_stk, mbox, hj])
    | (refine HD_guardU rfl (by simp [hcd, h0, h1, hi, hi1, hin1, hin', hn1, hn2, hrs, hrl, allU2_stk, mbox, hj]) ?_; simp [hcd, h0, h1, hi, hi1, hin1, hin', hn1, hn2, hrs, hrl, allU2_stk, mbox, hj])
    | (refine HD_guard rfl (by simp [hcd, h0, h1, hi, hi1, hin1, hin', hn1, hn2, hrs, hrl, allU2_stk, mbox, hj]) (fun hc => ?_) (fun hc => ?_) <;> (try simp [hcd, h0, h1, hi, hi1, hin1, hin', hn1, hn2, hrs, hrl, allU2_stk, mbox, hj] at hc) <;> (try (exfalso; omega)) <;> (try simp [hcd, h0, h1, hi, hi1, hin1, hin', hn1, hn2, hrs, hrl, allU2_stk, mbox, hj]))
    | (refine V_seq ?_)
    | (refine V_region1 fun k hk => ?_; simp [hcd, h0, h1, hi, hi1, hin1, hin', hn1, hn2, hrs, hrl, allU2_stk, mbox, hj])
    | (refine V_drawV rfl (by kernel_rfl) (by kernel_rfl) fun k hk => ?_; simp [hcd, h0, h1, hi, hi1, hin1, hin', hn1, hn2, hrs, hrl, allU2_stk, mbox, hj])
    | (refine V_drawE rfl (by kernel_rfl) (by kernel_rfl) (by simp [hn]) fun C k hC hk => ?_; simp [hcd, h0, h1, hi, hi1, hin1, hin', hn1, hn2, hrs, hrl, allU2_stk, mbox, hj])
    | (refine HD2_nil (hC _ (by kernel_rfl)) (hk _ ?_); clear hC hk C k)
    | (refine HD2_val rfl ?_; simp [hcd, h0, h1, hi, hi1, hin1, hin', hn1, hn2, hrs, hrl, allU2_stk, mbox, hj])
    | (refine HD2_chg rfl ?_; simp [hcd, h0, h1, hi, hi1, hin1, hin', hn1, hn2, hrs, hrl, allU2_stk, mbox, hj])
    | (refine HD2_guardU rfl (by simp [hcd, h0, h1, hi, hi1, hin1, hin', hn1, hn2, hrs, hrl, allU2_stk, mbox, hj]) ?_; simp [hcd, h0, h1, hi, hi1, hin1, hin', hn1, hn2, hrs, hrl, allU2_stk, mbox, hj])
    | (refine HD2_guard rfl (by simp [hcd, h0, h1, hi, hi1, hin1, hin', hn1, hn2, hrs, hrl, allU2_stk, mbox, hj]) (fun hc => ?_) (fun hc => ?_) <;> (try simp [hcd, h0, h1, hi, hi1, hin1, hin', hn1, hn2, hrs, hrl, allU2_stk, mbox, hj] at hc) <;> (try (exfalso; omega)) <;> (try simp [hcd, h0, h1, hi, hi1, hin1, hin', hn1, hn2, hrs, hrl, allU2_stk, mbox, hj]))
    | (refine V_block ?_)
        | (refine V_ret ?_)
    | (refine V_exit ?_)
    | (refine V_skip ?_)
    | (refine R_seq ?_)
    | (refine R_seq_ret ?_)
    | (refine R_seq_exit ?_)
    | (refine R_blk_ret ?_)
    | (refine R_blk ?_)
    | (refine R_blk_exit ?_)
    | (refine R_blk_other (by decide) ?_)
    | (refine R_loop_ret ?_)
    | (refine R_loop_exit ?_)
    | (refine R_loop ?_)
    | (refine R_done ?_)
    | (refine hk _ ?_; clear hk k)
    | (refine ⟨by omega, ?_⟩)
    | (refine ⟨?_, by omega⟩)
    | (refine ⟨fun hc => ?_, fun hc => ?_⟩ <;> (try (exfalso; omega)))
    | (refine V_cond rfl (fun hc => ?_) (fun hc => ?_) <;> (try simp [hcd, h0, h1, hi, hi1, hin1, hin', hn1, hn2, hrs, hrl, allU2_stk, mbox, hj] at hc) <;> (try (exfalso; omega)))
    | (intro hc <;> (try (exfalso; omega))))
    all_goals
      (first | (refine EndOK.fin (.inr rfl) ?_) | (refine EndOK.fin (.inl rfl) ?_)); simp [resD, oneOrTup, Try.results15]
      refine FinOK.here (by simp <;> omega) ?_
      rw [hst]
    · rw [if_neg (by simp [hany] <;> omega), stepI, if_pos ‹c.op = 0›]
      exact hg
    · rw [if_neg (by simp [hany] <;> omega), stepI, if_neg ‹¬c.op = 0›, if_pos ‹c.op = 1›, hfd]
      exact hg
    · rw [if_neg (by simp [hany] <;> omega), stepI, if_neg ‹¬c.op = 0›, if_neg ‹¬c.op = 1›, if_pos ‹c.op = 12›]
      exact .inr ⟨i, r, hi, by simp <;> omega, hr, by simp [mbox, hcd, h0, h1, hi, hi1, hin1, hin', hn1, hn2, hrs, hrl, allU2_stk], by simp [hcd, h0, h1, hi, hi1, hin1, hin', hn1, hn2, hrs, hrl, allU2_stk]⟩
    · rw [if_neg (by simp [hany] <;> omega), stepI, if_neg ‹¬c.op = 0›, if_neg ‹¬c.op = 1›, if_neg ‹¬c.op = 12›, if_pos ‹c.op = 13›, htop, hdrop, if_pos ‹x = 0›]
      exact .inr ⟨i, r, hi, by simp <;> omega, rfl, by simp [mbox, hcd, h0, h1, hi, hi1, hin1, hin', hn1, hn2, hrs, hrl, allU2_stk], by simp [hcd, h0, h1, hi, hi1, hin1, hin', hn1, hn2, hrs, hrl, allU2_stk]⟩
    · rw [if_neg (by simp [hany] <;> omega), stepI, if_neg ‹¬c.op = 0›, if_neg ‹¬c.op = 1›, if_neg ‹¬c.op = 12›, if_pos ‹c.op = 13›, htop, hdrop, if_neg ‹¬x = 0›]
      exact .inr ⟨i, r, hi, by simp <;> omega, rfl, by simp [mbox, hcd, h0, h1, hi, hi1, hin1, hin', hn1, hn2, hrs, hrl, allU2_stk], by simp [hcd, h0, h1, hi, hi1, hin1, hin', hn1, hn2, hrs, hrl, allU2_stk]⟩
    · rw [if_neg (by simp [hany] <;> omega), stepI, if_neg ‹¬c.op = 0›, if_neg ‹¬c.op = 1›, if_neg ‹¬c.op = 12›, if_neg ‹¬c.op = 13›, if_pos ‹c.op = 14›, htop]
      exact .inl ⟨rfl, hg⟩
    · rw [if_neg (by simp [hany] <;> omega), stepI, if_neg ‹¬c.op = 0›, if_neg ‹¬c.op = 1›, if_neg ‹¬c.op = 12›, if_neg ‹¬c.op = 13›, if_neg ‹¬c.op = 14›, if_pos ‹c.op = 11›, htop, hdrop]
      simp only [Pm.truth, decide_eq_true_eq]
      exact hg
    all_goals
      rw [if_pos (by simp [hany] <;> omega)]
      exact .inl ⟨rfl, hg⟩
end Go.Proofs.Ytblmompdcammeaa
