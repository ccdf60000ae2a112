/- What an instruction of two values computes. -/
import Derived.Test.YtblmompdcammeaaWc
set_option linter.all false
namespace Go.Pm
def truth (b : Bool) : Int := if b then 1 else 0
/-- What an instruction of two values computes. -/
def two (op a b : Int) : Int :=
  if op = 2 then a + b else if op = 3 then a - b else if op = 4 then over a b 1 else if op = 6 then over a b 1000 else if op = 5 then a.fdiv b
  else if op = 7 then min a b else if op = 8 then max a b else if op = 9 then truth (decide (a < b)) else truth (decide (a = b))
end Go.Pm
namespace Go.Proofs.Ytblmompdcammeaa
open Go Go.VL
attribute [local simp] hcons hstep evPure opd uOf putOK St.put St.at getK binD binI binS binB nilD aggD eqUs cmpK shiftI arith unD convD pickD loadD cellsAt fieldAddrD fieldD indexAddrD indexD sliceD cutD lenD minmaxD nilCheckD buildD fillD cellsD isOne ones setAll mkAgg allU allocD boxD storeD St.add buildSliceD appendD rowsOf makeD setOb getK_setOb getK_del getK_cons stripL strip guardTmp entry chunks zcells valD argsV argsW argW argU1 argU0 argsU0 argsU1 calleeOf scalarD scalarU delAll effD St.effS applyW mkD rdIds lentIds callOf calleeOf freeOp D.ids Op.operands Call.operands isEffOp IntKind.bits allU2 allU2_append List.take_of_length_le List.range_succ
attribute [local irreducible] V G H HD HD2 RunK Eff CallP CallV EndOK Fun Ret FinOK LoopI
theorem two_fun (op x y : Int) (hx : -1099511627776 ≤ x ∧ x ≤ 1099511627776) (hy : -1099511627776 ≤ y ∧ y ≤ 1099511627776) (hd : op = 5 → y ≠ 0) :
    Fun Try.prog 33 [.u (.int .i64 op), .u (.int .i64 x), .u (.int .i64 y)] (· = .u (.int .i64 (Pm.two op x y))) := by
  (refine Fun.of_body Try.func33 rfl (by simp) fun Γ hn => ?_); simp only [entry, List.zipIdx_cons, List.zipIdx_nil, List.map_cons, List.map_nil, Nat.zero_add, Try.ntmps33]
  repeat' (first
    | (first | (refine CallV.fun_ (over_fun x y 1 hx hy (.inl rfl)) (by rfl) (by first | assumption | (simp; done) | fail) (by first | (simp; done) | (simp; rfl)) (by first | (simp; done) | fail) ?_ <;> (try simp)) | (refine CallP.fun_ (over_fun x y 1 hx hy (.inl rfl)) (by rfl) (by first | assumption | (simp; done) | fail) (by first | (simp; done) | (simp; rfl)) (by first | (simp; done) | fail) (fun d hd => ?_); subst hd; (try simp)))
    | (first | (refine CallV.fun_ (over_fun x y 1000 hx hy (.inr rfl)) (by rfl) (by first | assumption | (simp; done) | fail) (by first | (simp; done) | (simp; rfl)) (by first | (simp; done) | fail) ?_ <;> (try simp)) | (refine CallP.fun_ (over_fun x y 1000 hx hy (.inr rfl)) (by rfl) (by first | assumption | (simp; done) | fail) (by first | (simp; done) | (simp; rfl)) (by first | (simp; done) | fail) (fun d hd => ?_); subst hd; (try simp)))
    | (first | (refine CallV.fun_ (floor_fun x y (hd (by omega)) hx.1 hx.2) (by rfl) (by first | assumption | (simp; done) | fail) (by first | (simp; done) | (simp; rfl)) (by first | (simp; done) | fail) ?_ <;> (try simp)) | (refine CallP.fun_ (floor_fun x y (hd (by omega)) hx.1 hx.2) (by rfl) (by first | assumption | (simp; done) | fail) (by first | (simp; done) | (simp; rfl)) (by first | (simp; done) | fail) (fun d hd => ?_); subst hd; (try simp)))
    | (first | (refine CallV.fun_ (truth_fun (decide (x < y))) (by rfl) (by first | assumption | (simp; done) | fail) (by first | (simp; done) | (simp; rfl)) (by first | (simp; done) | fail) ?_ <;> (try simp)) | (refine CallP.fun_ (truth_fun (decide (x < y))) (by rfl) (by first | assumption | (simp; done) | fail) (by first | (simp; done) | (simp; rfl)) (by first | (simp; done) | fail) (fun d hd => ?_); subst hd; (try simp)))
    | (first | (refine CallV.fun_ (truth_fun (decide (x = y))) (by rfl) (by first | assumption | (simp; done) | fail) (by first | (simp; done) | (simp; rfl)) (by first | (simp; done) | fail) ?_ <;> (try simp)) | (refine CallP.fun_ (truth_fun (decide (x = y))) (by rfl) (by first | assumption | (simp; done) | fail) (by first | (simp; done) | (simp; rfl)) (by first | (simp; done) | fail) (fun d hd => ?_); subst hd; (try simp)))
    | (refine H_cons ?_; simp)
    | (refine H_nil ?_)
    | (refine HD_nil ?_)
    | (refine HD_cons ?_; simp)
    | (refine HD_guardU rfl (by simp) ?_; simp)
    | (refine HD_guard rfl (by simp) (fun hc => ?_) (fun hc => ?_) <;> (try simp at hc) <;> (try (exfalso; omega)) <;> (try simp))
    | (refine V_seq ?_)
    | (refine V_region1 fun k hk => ?_; simp)
    | (refine V_drawV rfl (by kernel_rfl) (by kernel_rfl) fun k hk => ?_; simp)
    | (refine V_drawE rfl (by kernel_rfl) (by kernel_rfl) (by simp [hn]) fun C k hC hk => ?_; simp)
    | (refine HD2_nil (hC _ (by kernel_rfl)) (hk _ ?_); clear hC hk C k)
    | (refine HD2_val rfl ?_; simp)
    | (refine HD2_chg rfl ?_; simp)
    | (refine HD2_guardU rfl (by simp) ?_; simp)
    | (refine HD2_guard rfl (by simp) (fun hc => ?_) (fun hc => ?_) <;> (try simp at hc) <;> (try (exfalso; omega)) <;> (try simp))
    | (refine V_block ?_)
        | (refine V_ret ?_)
    | (refine V_exit ?_)
    | (refine V_skip ?_)
    | (refine R_seq ?_)
    | (refine R_seq_ret ?_)
    | (refine R_seq_exit ?_)
    | (refine R_blk_ret ?_)
    | (refine R_blk ?_)
    | (refine R_blk_exit ?_)
    | (refine R_blk_other (by decide) ?_)
    | (refine R_loop_ret ?_)
    | (refine R_loop_exit ?_)
    | (refine R_loop ?_)
    | (refine R_done ?_)
    | (refine hk _ ?_; clear hk k)
    | (refine ⟨by omega, ?_⟩)
    | (refine ⟨?_, by omega⟩)
    | (refine ⟨fun hc => ?_, fun hc => ?_⟩ <;> (try (exfalso; omega)))
    | (refine V_cond rfl (fun hc => ?_) (fun hc => ?_) <;> (try simp at hc) <;> (try (exfalso; omega)))
    | (intro hc <;> (try (exfalso; omega))))
  all_goals
    (refine EndOK.val (.inr rfl) ?_; simp [resD, oneOrTup, pureD, Try.results33])
  all_goals simp [Pm.two, Pm.truth, *]
end Go.Proofs.Ytblmompdcammeaa
