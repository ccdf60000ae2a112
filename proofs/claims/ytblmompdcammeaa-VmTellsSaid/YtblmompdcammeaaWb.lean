/- Products and quotients of two words. -/
import Derived.Test.YtblmompdcammeaaWa
import Derived.Test.YtblmompdcammeaaPn
import Derived.Test.YtblmompdcammeaaVLs
set_option linter.all false
namespace Go.Proofs.Ytblmompdcammeaa
open Go Go.VL
attribute [local simp] hcons hstep evPure opd uOf putOK St.put St.at getK binD binI binS binB nilD aggD eqUs cmpK shiftI arith unD convD pickD loadD cellsAt fieldAddrD fieldD indexAddrD indexD sliceD cutD lenD minmaxD nilCheckD buildD fillD cellsD isOne ones setAll mkAgg allU allocD boxD storeD St.add buildSliceD appendD rowsOf makeD setOb getK_setOb getK_del getK_cons stripL strip guardTmp entry chunks zcells valD argsV argsW argW argU1 argU0 argsU0 argsU1 calleeOf scalarD scalarU delAll effD St.effS applyW mkD rdIds lentIds callOf calleeOf freeOp D.ids Op.operands Call.operands isEffOp IntKind.bits allU2 allU2_append List.take_of_length_le List.range_succ
attribute [local irreducible] V G H HD HD2 RunK Eff CallP CallV EndOK Fun Ret FinOK LoopI
theorem mul64_fun (x y : Int) (hx : 0 ≤ x) (hx' : x ≤ 1099511627776) (hy : 0 ≤ y) (hy' : y ≤ 1099511627776) : Fun Try.prog 42 [.u (.int .u64 x), .u (.int .u64 y)]
    (· = .tup [.u (.int .u64 (x * y / 18446744073709551616)), .u (.int .u64 (x * y % 18446744073709551616))]) := by
  (refine Fun.of_body Try.func42 rfl (by simp) fun Γ hn => ?_); simp only [entry, List.zipIdx_cons, List.zipIdx_nil, List.map_cons, List.map_nil, Nat.zero_add, Try.ntmps42]
  repeat' (first
    | (refine H_cons ?_; simp)
    | (refine H_nil ?_)
    | (refine HD_nil ?_)
    | (refine HD_cons ?_; simp)
    | (refine HD_guardU rfl (by simp) ?_; simp)
    | (refine HD_guard rfl (by simp) (fun hc => ?_) (fun hc => ?_) <;> (try simp at hc) <;> (try (exfalso; omega)) <;> (try simp))
    | (refine V_seq ?_)
    | (refine V_region1 fun k hk => ?_; simp)
    | (refine V_drawV rfl (by kernel_rfl) (by kernel_rfl) fun k hk => ?_; simp)
    | (refine V_drawE rfl (by kernel_rfl) (by kernel_rfl) (by simp [hn]) fun C k hC hk => ?_; simp)
    | (refine HD2_nil (hC _ (by kernel_rfl)) (hk _ ?_); clear hC hk C k)
    | (refine HD2_val rfl ?_; simp)
    | (refine HD2_chg rfl ?_; simp)
    | (refine HD2_guardU rfl (by simp) ?_; simp)
    | (refine HD2_guard rfl (by simp) (fun hc => ?_) (fun hc => ?_) <;> (try simp at hc) <;> (try (exfalso; omega)) <;> (try simp))
    | (refine V_block ?_)
        | (refine V_ret ?_)
    | (refine V_exit ?_)
    | (refine V_skip ?_)
    | (refine R_seq ?_)
    | (refine R_seq_ret ?_)
    | (refine R_seq_exit ?_)
    | (refine R_blk_ret ?_)
    | (refine R_blk ?_)
    | (refine R_blk_exit ?_)
    | (refine R_blk_other (by decide) ?_)
    | (refine R_loop_ret ?_)
    | (refine R_loop_exit ?_)
    | (refine R_loop ?_)
    | (refine R_done ?_)
    | (refine hk _ ?_; clear hk k)
    | (refine ⟨by omega, ?_⟩)
    | (refine ⟨?_, by omega⟩)
    | (refine ⟨fun hc => ?_, fun hc => ?_⟩ <;> (try (exfalso; omega)))
    | (refine V_cond rfl (fun hc => ?_) (fun hc => ?_) <;> (try simp at hc) <;> (try (exfalso; omega)))
    | (intro hc <;> (try (exfalso; omega))))
  all_goals
  (refine EndOK.val (.inr rfl) ?_; simp [resD, oneOrTup, pureD, Try.results42])
  exact Pm.mul_hi x y hx hx' hy hy'
set_option maxRecDepth 100000 in
theorem len64_1000 : Fun Try.prog 45 [.u (.int .u64 1000)] (· = .u (.int .i64 10)) := by
  (refine Fun.of_body Try.func45 rfl (by simp) fun Γ hn => ?_); simp only [entry, List.zipIdx_cons, List.zipIdx_nil, List.map_cons, List.map_nil, Nat.zero_add, Try.ntmps45]
  repeat' (first
    | (refine H_cons ?_; simp)
    | (refine H_nil ?_)
    | (refine HD_nil ?_)
    | (refine HD_cons ?_; simp)
    | (refine HD_guardU rfl (by simp) ?_; simp)
    | (refine HD_guard rfl (by simp) (fun hc => ?_) (fun hc => ?_) <;> (try simp at hc) <;> (try (exfalso; omega)) <;> (try simp))
    | (refine V_seq ?_)
    | (refine V_region1 fun k hk => ?_; simp)
    | (refine V_drawV rfl (by kernel_rfl) (by kernel_rfl) fun k hk => ?_; simp)
    | (refine V_drawE rfl (by kernel_rfl) (by kernel_rfl) (by simp [hn]) fun C k hC hk => ?_; simp)
    | (refine HD2_nil (hC _ (by kernel_rfl)) (hk _ ?_); clear hC hk C k)
    | (refine HD2_val rfl ?_; simp)
    | (refine HD2_chg rfl ?_; simp)
    | (refine HD2_guardU rfl (by simp) ?_; simp)
    | (refine HD2_guard rfl (by simp) (fun hc => ?_) (fun hc => ?_) <;> (try simp at hc) <;> (try (exfalso; omega)) <;> (try simp))
    | (refine V_block ?_)
        | (refine V_ret ?_)
    | (refine V_exit ?_)
    | (refine V_skip ?_)
    | (refine R_seq ?_)
    | (refine R_seq_ret ?_)
    | (refine R_seq_exit ?_)
    | (refine R_blk_ret ?_)
    | (refine R_blk ?_)
    | (refine R_blk_exit ?_)
    | (refine R_blk_other (by decide) ?_)
    | (refine R_loop_ret ?_)
    | (refine R_loop_exit ?_)
    | (refine R_loop ?_)
    | (refine R_done ?_)
    | (refine hk _ ?_; clear hk k)
    | (refine ⟨by omega, ?_⟩)
    | (refine ⟨?_, by omega⟩)
    | (refine ⟨fun hc => ?_, fun hc => ?_⟩ <;> (try (exfalso; omega)))
    | (refine V_cond rfl (fun hc => ?_) (fun hc => ?_) <;> (try simp at hc) <;> (try (exfalso; omega)))
    | (intro hc <;> (try (exfalso; omega))))
  (refine EndOK.val (.inr rfl) ?_; simp [resD, oneOrTup, pureD, Try.results45])
theorem lz64_1000 : Fun Try.prog 44 [.u (.int .u64 1000)] (· = .u (.int .i64 54)) := by
  (refine Fun.of_body Try.func44 rfl (by simp) fun Γ hn => ?_); simp only [entry, List.zipIdx_cons, List.zipIdx_nil, List.map_cons, List.map_nil, Nat.zero_add, Try.ntmps44]
  repeat' (first
    | (refine H_cons ?_; simp)
    | (refine H_nil ?_)
    | (refine HD_nil ?_)
    | (refine HD_cons ?_; simp)
    | (refine HD_guardU rfl (by simp) ?_; simp)
    | (refine HD_guard rfl (by simp) (fun hc => ?_) (fun hc => ?_) <;> (try simp at hc) <;> (try (exfalso; omega)) <;> (try simp))
    | (refine V_seq ?_)
    | (refine V_region1 fun k hk => ?_; simp)
    | (refine V_drawV rfl (by kernel_rfl) (by kernel_rfl) fun k hk => ?_; simp)
    | (refine V_drawE rfl (by kernel_rfl) (by kernel_rfl) (by simp [hn]) fun C k hC hk => ?_; simp)
    | (refine HD2_nil (hC _ (by kernel_rfl)) (hk _ ?_); clear hC hk C k)
    | (refine HD2_val rfl ?_; simp)
    | (refine HD2_chg rfl ?_; simp)
    | (refine HD2_guardU rfl (by simp) ?_; simp)
    | (refine HD2_guard rfl (by simp) (fun hc => ?_) (fun hc => ?_) <;> (try simp at hc) <;> (try (exfalso; omega)) <;> (try simp))
    | (refine V_block ?_)
        | (refine V_ret ?_)
    | (refine V_exit ?_)
    | (refine V_skip ?_)
    | (refine R_seq ?_)
    | (refine R_seq_ret ?_)
    | (refine R_seq_exit ?_)
    | (refine R_blk_ret ?_)
    | (refine R_blk ?_)
    | (refine R_blk_exit ?_)
    | (refine R_blk_other (by decide) ?_)
    | (refine R_loop_ret ?_)
    | (refine R_loop_exit ?_)
    | (refine R_loop ?_)
    | (refine R_done ?_)
    | (refine hk _ ?_; clear hk k)
    | (refine ⟨by omega, ?_⟩)
    | (refine ⟨?_, by omega⟩)
    | (refine ⟨fun hc => ?_, fun hc => ?_⟩ <;> (try (exfalso; omega)))
    | (refine V_cond rfl (fun hc => ?_) (fun hc => ?_) <;> (try simp at hc) <;> (try (exfalso; omega)))
    | (intro hc <;> (try (exfalso; omega))))
  (first | (refine CallV.fun_ (len64_1000) (by rfl) (by first | assumption | (simp; done) | fail) (by first | (simp; done) | (simp; rfl)) (by first | (simp; done) | fail) ?_ <;> (try simp)) | (refine CallP.fun_ (len64_1000) (by rfl) (by first | assumption | (simp; done) | fail) (by first | (simp; done) | (simp; rfl)) (by first | (simp; done) | fail) (fun d hd => ?_); subst hd; (try simp)))
  repeat' (first
    | (refine H_cons ?_; simp)
    | (refine H_nil ?_)
    | (refine HD_nil ?_)
    | (refine HD_cons ?_; simp)
    | (refine HD_guardU rfl (by simp) ?_; simp)
    | (refine HD_guard rfl (by simp) (fun hc => ?_) (fun hc => ?_) <;> (try simp at hc) <;> (try (exfalso; omega)) <;> (try simp))
    | (refine V_seq ?_)
    | (refine V_region1 fun k hk => ?_; simp)
    | (refine V_drawV rfl (by kernel_rfl) (by kernel_rfl) fun k hk => ?_; simp)
    | (refine V_drawE rfl (by kernel_rfl) (by kernel_rfl) (by simp [hn]) fun C k hC hk => ?_; simp)
    | (refine HD2_nil (hC _ (by kernel_rfl)) (hk _ ?_); clear hC hk C k)
    | (refine HD2_val rfl ?_; simp)
    | (refine HD2_chg rfl ?_; simp)
    | (refine HD2_guardU rfl (by simp) ?_; simp)
    | (refine HD2_guard rfl (by simp) (fun hc => ?_) (fun hc => ?_) <;> (try simp at hc) <;> (try (exfalso; omega)) <;> (try simp))
    | (refine V_block ?_)
        | (refine V_ret ?_)
    | (refine V_exit ?_)
    | (refine V_skip ?_)
    | (refine R_seq ?_)
    | (refine R_seq_ret ?_)
    | (refine R_seq_exit ?_)
    | (refine R_blk_ret ?_)
    | (refine R_blk ?_)
    | (refine R_blk_exit ?_)
    | (refine R_blk_other (by decide) ?_)
    | (refine R_loop_ret ?_)
    | (refine R_loop_exit ?_)
    | (refine R_loop ?_)
    | (refine R_done ?_)
    | (refine hk _ ?_; clear hk k)
    | (refine ⟨by omega, ?_⟩)
    | (refine ⟨?_, by omega⟩)
    | (refine ⟨fun hc => ?_, fun hc => ?_⟩ <;> (try (exfalso; omega)))
    | (refine V_cond rfl (fun hc => ?_) (fun hc => ?_) <;> (try simp at hc) <;> (try (exfalso; omega)))
    | (intro hc <;> (try (exfalso; omega))))
  (refine EndOK.val (.inr rfl) ?_; simp [resD, oneOrTup, pureD, Try.results44])
theorem div64_zero (x y : Int) (hx : 0 ≤ x) (hx' : x < 18446744073709551616) (hy : 0 < y) (hy' : y < 18446744073709551616) :
    Fun Try.prog 43 [.u (.int .u64 0), .u (.int .u64 x), .u (.int .u64 y)] (· = .tup [.u (.int .u64 (x / y)), .u (.int .u64 (x % y))]) := by
  (refine Fun.of_body Try.func43 rfl (by simp) fun Γ hn => ?_); simp only [entry, List.zipIdx_cons, List.zipIdx_nil, List.map_cons, List.map_nil, Nat.zero_add, Try.ntmps43]
  repeat' (first
    | (refine H_cons ?_; simp)
    | (refine H_nil ?_)
    | (refine HD_nil ?_)
    | (refine HD_cons ?_; simp)
    | (refine HD_guardU rfl (by simp) ?_; simp)
    | (refine HD_guard rfl (by simp) (fun hc => ?_) (fun hc => ?_) <;> (try simp at hc) <;> (try (exfalso; omega)) <;> (try simp))
    | (refine V_seq ?_)
    | (refine V_region1 fun k hk => ?_; simp)
    | (refine V_drawV rfl (by kernel_rfl) (by kernel_rfl) fun k hk => ?_; simp)
    | (refine V_drawE rfl (by kernel_rfl) (by kernel_rfl) (by simp [hn]) fun C k hC hk => ?_; simp)
    | (refine HD2_nil (hC _ (by kernel_rfl)) (hk _ ?_); clear hC hk C k)
    | (refine HD2_val rfl ?_; simp)
    | (refine HD2_chg rfl ?_; simp)
    | (refine HD2_guardU rfl (by simp) ?_; simp)
    | (refine HD2_guard rfl (by simp) (fun hc => ?_) (fun hc => ?_) <;> (try simp at hc) <;> (try (exfalso; omega)) <;> (try simp))
    | (refine V_block ?_)
        | (refine V_ret ?_)
    | (refine V_exit ?_)
    | (refine V_skip ?_)
    | (refine R_seq ?_)
    | (refine R_seq_ret ?_)
    | (refine R_seq_exit ?_)
    | (refine R_blk_ret ?_)
    | (refine R_blk ?_)
    | (refine R_blk_exit ?_)
    | (refine R_blk_other (by decide) ?_)
    | (refine R_loop_ret ?_)
    | (refine R_loop_exit ?_)
    | (refine R_loop ?_)
    | (refine R_done ?_)
    | (refine hk _ ?_; clear hk k)
    | (refine ⟨by omega, ?_⟩)
    | (refine ⟨?_, by omega⟩)
    | (refine ⟨fun hc => ?_, fun hc => ?_⟩ <;> (try (exfalso; omega)))
    | (refine V_cond rfl (fun hc => ?_) (fun hc => ?_) <;> (try simp at hc) <;> (try (exfalso; omega)))
    | (intro hc <;> (try (exfalso; omega))))
  all_goals
  (refine EndOK.val (.inr rfl) ?_; simp [resD, oneOrTup, pureD, Try.results43])
  rw [Int.tdiv_eq_ediv_of_nonneg hx, Int.tmod_eq_emod_of_nonneg hx]
  refine ⟨?_, rfl⟩
  have h1 := Int.ediv_nonneg hx (Int.le_of_lt hy)
  have h2 := Int.ediv_le_self y hx
  omega
theorem div64_1000 (h x : Int) (hh : 0 < h) (hh' : h < 1000) (hx : 0 ≤ x) (hx' : x < 18446744073709551616) :
    Fun Try.prog 43 [.u (.int .u64 h), .u (.int .u64 x), .u (.int .u64 1000)]
      (· = .tup [.u (.int .u64 ((h * 18446744073709551616 + x) / 1000)), .u (.int .u64 ((h * 18446744073709551616 + x) % 1000))]) := by
  have e1 : bitOr .u64 (h * 18014398509481984 % 18446744073709551616) (x / 1024) = h * 18014398509481984 + x / 1024 := by
    rw [show h * 18014398509481984 % 18446744073709551616 = h * 2 ^ 54 by omega]
    rw [Pm.or_add h (x / 1024) 54 (by omega) (by omega) (by omega) (by omega)]
    omega
  have e2 : bitAnd .u64 (x * 18014398509481984 % 18446744073709551616) 4294967295 = 0 := by
    rw [Pm.and_mask32 _ (by omega) (by omega)]
    omega
  have e3 : bitAnd .u64 18014398509481984000 4294967295 = 0 := by
    rw [Pm.and_mask32 _ (by omega) (by omega)]
    rfl
  have t1 : (h * 18014398509481984 + x / 1024).tdiv 4194304000 % 18446744073709551616 = (h * 18014398509481984 + x / 1024) / 4194304000 := by
    rw [Int.tdiv_eq_ediv_of_nonneg (by omega)]
    omega
  have t2 : ((h * 18014398509481984 + x / 1024) * 4294967296 + x * 18014398509481984 % 18446744073709551616 / 4294967296 -
      (h * 18014398509481984 + x / 1024) / 4194304000 * 18014398509481984000) % 18446744073709551616 =
      (h * 18014398509481984 + x / 1024) % 4194304000 * 4294967296 + x % 1024 * 4194304 := by omega
  have t3 : ((h * 18014398509481984 + x / 1024) % 4194304000 * 4294967296 + x % 1024 * 4194304).tdiv 4194304000 =
      ((h * 18014398509481984 + x / 1024) % 4194304000 * 4294967296 + x % 1024 * 4194304) / 4194304000 := Int.tdiv_eq_ediv_of_nonneg (by omega)
  have t3' : ((h * 18014398509481984 + x / 1024) % 4194304000 * 4294967296 + x % 1024 * 4194304) / 4194304000 % 18446744073709551616 =
      ((h * 18014398509481984 + x / 1024) % 4194304000 * 4294967296 + x % 1024 * 4194304) / 4194304000 := by omega
  have t4 : (h * 18014398509481984 + x / 1024) % 4194304000 * 4294967296 + x % 1024 * 4194304 =
      (h * 18446744073709551616 + x) % 4294967296000 * 4194304 := by omega
  have t5 : (h * 18014398509481984 + x / 1024) / 4194304000 = (h * 18446744073709551616 + x) / 4294967296000 := by omega
  have t6 : ∀ z : Int, 0 ≤ z → z < 18446744073709551616000 → (z / 4294967296000 * 4294967296 + z % 4294967296000 * 4194304 / 4194304000) % 18446744073709551616 = z / 1000 := by omega
  (refine Fun.of_body Try.func43 rfl (by simp) fun Γ hn => ?_); simp only [entry, List.zipIdx_cons, List.zipIdx_nil, List.map_cons, List.map_nil, Nat.zero_add, Try.ntmps43]
  repeat' (first
    | (refine H_cons ?_; simp [e1, e2, e3, t1, t2, t3, t3'])
    | (refine H_nil ?_)
    | (refine HD_nil ?_)
    | (refine HD_cons ?_; simp [e1, e2, e3, t1, t2, t3, t3'])
    | (refine HD_guardU rfl (by simp [e1, e2, e3, t1, t2, t3, t3']) ?_; simp [e1, e2, e3, t1, t2, t3, t3'])
    | (refine HD_guard rfl (by simp [e1, e2, e3, t1, t2, t3, t3']) (fun hc => ?_) (fun hc => ?_) <;> (try simp [e1, e2, e3, t1, t2, t3, t3'] at hc) <;> (try (exfalso; omega)) <;> (try simp [e1, e2, e3, t1, t2, t3, t3']))
    | (refine V_seq ?_)
    | (refine V_region1 fun k hk => ?_; simp [e1, e2, e3, t1, t2, t3, t3'])
    | (refine V_drawV rfl (by kernel_rfl) (by kernel_rfl) fun k hk => ?_; simp [e1, e2, e3, t1, t2, t3, t3'])
    | (refine V_drawE rfl (by kernel_rfl) (by kernel_rfl) (by simp [hn]) fun C k hC hk => ?_; simp [e1, e2, e3, t1, t2, t3, t3'])
    | (refine HD2_nil (hC _ (by kernel_rfl)) (hk _ ?_); clear hC hk C k)
    | (refine HD2_val rfl ?_; simp [e1, e2, e3, t1, t2, t3, t3'])
    | (refine HD2_chg rfl ?_; simp [e1, e2, e3, t1, t2, t3, t3'])
    | (refine HD2_guardU rfl (by simp [e1, e2, e3, t1, t2, t3, t3']) ?_; simp [e1, e2, e3, t1, t2, t3, t3'])
    | (refine HD2_guard rfl (by simp [e1, e2, e3, t1, t2, t3, t3']) (fun hc => ?_) (fun hc => ?_) <;> (try simp [e1, e2, e3, t1, t2, t3, t3'] at hc) <;> (try (exfalso; omega)) <;> (try simp [e1, e2, e3, t1, t2, t3, t3']))
    | (refine V_block ?_)
    | (refine V_once ?_)
    | (refine V_ret ?_)
    | (refine V_exit ?_)
    | (refine V_skip ?_)
    | (refine R_seq ?_)
    | (refine R_seq_ret ?_)
    | (refine R_seq_exit ?_)
    | (refine R_blk_ret ?_)
    | (refine R_blk ?_)
    | (refine R_blk_exit ?_)
    | (refine R_blk_other (by decide) ?_)
    | (refine R_loop_ret ?_)
    | (refine R_loop_exit ?_)
    | (refine R_loop ?_)
    | (refine R_done ?_)
    | (refine hk _ ?_; clear hk k)
    | (refine ⟨by omega, ?_⟩)
    | (refine ⟨?_, by omega⟩)
    | (refine ⟨fun hc => ?_, fun hc => ?_⟩ <;> (try (exfalso; omega)))
    | (refine V_cond rfl (fun hc => ?_) (fun hc => ?_) <;> (try simp [e1, e2, e3, t1, t2, t3, t3'] at hc) <;> (try (exfalso; omega)))
    | (intro hc <;> (try (exfalso; omega))))
  (first | (refine CallV.fun_ (lz64_1000) (by rfl) (by first | assumption | (simp; done) | fail) (by first | (simp; done) | (simp; rfl)) (by first | (simp; done) | fail) ?_ <;> (try simp)) | (refine CallP.fun_ (lz64_1000) (by rfl) (by first | assumption | (simp; done) | fail) (by first | (simp; done) | (simp; rfl)) (by first | (simp; done) | fail) (fun d hd => ?_); subst hd; (try simp)))
  repeat' (first
    | (refine H_cons ?_; simp [e1, e2, e3, t1, t2, t3, t3'])
    | (refine H_nil ?_)
    | (refine HD_nil ?_)
    | (refine HD_cons ?_; simp [e1, e2, e3, t1, t2, t3, t3'])
    | (refine HD_guardU rfl (by simp [e1, e2, e3, t1, t2, t3, t3']) ?_; simp [e1, e2, e3, t1, t2, t3, t3'])
    | (refine HD_guard rfl (by simp [e1, e2, e3, t1, t2, t3, t3']) (fun hc => ?_) (fun hc => ?_) <;> (try simp [e1, e2, e3, t1, t2, t3, t3'] at hc) <;> (try (exfalso; omega)) <;> (try simp [e1, e2, e3, t1, t2, t3, t3']))
    | (refine V_seq ?_)
    | (refine V_region1 fun k hk => ?_; simp [e1, e2, e3, t1, t2, t3, t3'])
    | (refine V_drawV rfl (by kernel_rfl) (by kernel_rfl) fun k hk => ?_; simp [e1, e2, e3, t1, t2, t3, t3'])
    | (refine V_drawE rfl (by kernel_rfl) (by kernel_rfl) (by simp [hn]) fun C k hC hk => ?_; simp [e1, e2, e3, t1, t2, t3, t3'])
    | (refine HD2_nil (hC _ (by kernel_rfl)) (hk _ ?_); clear hC hk C k)
    | (refine HD2_val rfl ?_; simp [e1, e2, e3, t1, t2, t3, t3'])
    | (refine HD2_chg rfl ?_; simp [e1, e2, e3, t1, t2, t3, t3'])
    | (refine HD2_guardU rfl (by simp [e1, e2, e3, t1, t2, t3, t3']) ?_; simp [e1, e2, e3, t1, t2, t3, t3'])
    | (refine HD2_guard rfl (by simp [e1, e2, e3, t1, t2, t3, t3']) (fun hc => ?_) (fun hc => ?_) <;> (try simp [e1, e2, e3, t1, t2, t3, t3'] at hc) <;> (try (exfalso; omega)) <;> (try simp [e1, e2, e3, t1, t2, t3, t3']))
    | (refine V_block ?_)
    | (refine V_once ?_)
    | (refine V_ret ?_)
    | (refine V_exit ?_)
    | (refine V_skip ?_)
    | (refine R_seq ?_)
    | (refine R_seq_ret ?_)
    | (refine R_seq_exit ?_)
    | (refine R_blk_ret ?_)
    | (refine R_blk ?_)
    | (refine R_blk_exit ?_)
    | (refine R_blk_other (by decide) ?_)
    | (refine R_loop_ret ?_)
    | (refine R_loop_exit ?_)
    | (refine R_loop ?_)
    | (refine R_done ?_)
    | (refine hk _ ?_; clear hk k)
    | (refine ⟨by omega, ?_⟩)
    | (refine ⟨?_, by omega⟩)
    | (refine ⟨fun hc => ?_, fun hc => ?_⟩ <;> (try (exfalso; omega)))
    | (refine V_cond rfl (fun hc => ?_) (fun hc => ?_) <;> (try simp [e1, e2, e3, t1, t2, t3, t3'] at hc) <;> (try (exfalso; omega)))
    | (intro hc <;> (try (exfalso; omega))))
  all_goals
  (refine EndOK.val (.inr rfl) ?_; simp [resD, oneOrTup, pureD, Try.results43])
  rw [t5, t4]
  refine ⟨t6 _ (by omega) (by omega), ?_⟩
  generalize h * 18446744073709551616 + x = z at *
  omega
end Go.Proofs.Ytblmompdcammeaa
