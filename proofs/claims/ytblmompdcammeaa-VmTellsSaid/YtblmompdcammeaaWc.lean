/- Products and quotients of numbers, rounded down. -/
import Derived.Test.YtblmompdcammeaaWb
import Derived.Test.YtblmompdcammeaaVLx
set_option linter.all false
namespace Go.Pm
/-- a * b / c, rounded down, if that is not too great. -/
def over (x y c : Int) : Int := if 1099511627776 < (x.natAbs * y.natAbs : Int) / c then 1099511627777 else x * y / c
theorem abs_mul (x y : Int) : x * y = if (x < 0 ↔ y < 0) then (x.natAbs * y.natAbs : Int) else -(x.natAbs * y.natAbs : Int) := by
  rcases Int.lt_or_le x 0 with hx | hx <;> rcases Int.lt_or_le y 0 with hy | hy
  · have e1 : (x.natAbs : Int) = -x := by omega
    have e2 : (y.natAbs : Int) = -y := by omega
    simp [hx, hy, e1, e2, Int.neg_mul_neg]
  · have e1 : (x.natAbs : Int) = -x := by omega
    have e2 : (y.natAbs : Int) = y := by omega
    simp [hx, Int.not_lt.2 hy, e1, e2, Int.neg_mul]
  · have e1 : (x.natAbs : Int) = x := by omega
    have e2 : (y.natAbs : Int) = -y := by omega
    simp [hy, Int.not_lt.2 hx, e1, e2, Int.mul_neg]
  · have e1 : (x.natAbs : Int) = x := by omega
    have e2 : (y.natAbs : Int) = y := by omega
    simp [Int.not_lt.2 hx, Int.not_lt.2 hy, e1, e2]
end Go.Pm
namespace Go.Proofs.Ytblmompdcammeaa
open Go Go.VL
attribute [local simp] hcons hstep evPure opd uOf putOK St.put St.at getK binD binI binS binB nilD aggD eqUs cmpK shiftI arith unD convD pickD loadD cellsAt fieldAddrD fieldD indexAddrD indexD sliceD cutD lenD minmaxD nilCheckD buildD fillD cellsD isOne ones setAll mkAgg allU allocD boxD storeD St.add buildSliceD appendD rowsOf makeD setOb getK_setOb getK_del getK_cons stripL strip guardTmp entry chunks zcells valD argsV argsW argW argU1 argU0 argsU0 argsU1 calleeOf scalarD scalarU delAll effD St.effS applyW mkD rdIds lentIds callOf calleeOf freeOp D.ids Op.operands Call.operands isEffOp IntKind.bits allU2 allU2_append List.take_of_length_le List.range_succ
attribute [local irreducible] V G H HD HD2 RunK Eff CallP CallV EndOK Fun Ret FinOK LoopI
theorem mul64_fun' (x y m : Int) (hx : 0 ≤ x) (hx' : x ≤ 1099511627776) (hy : 0 ≤ y) (hy' : y ≤ 1099511627776) (hm : x * y = m) : Fun Try.prog 42 [.u (.int .u64 x), .u (.int .u64 y)]
    (· = .tup [.u (.int .u64 (m / 18446744073709551616)), .u (.int .u64 (m % 18446744073709551616))]) := by
  subst hm
  exact mul64_fun x y hx hx' hy hy'
theorem div64_fun (m c : Int) (hm : 0 ≤ m) (hm' : m ≤ 1208925819614629174706176) (hc : c = 1 ∨ c = 1000) (hh : m / 18446744073709551616 < c) :
    Fun Try.prog 43 [.u (.int .u64 (m / 18446744073709551616)), .u (.int .u64 (m % 18446744073709551616)), .u (.int .u64 c)]
      (· = .tup [.u (.int .u64 (m / c)), .u (.int .u64 (m % c))]) := by
  by_cases h0 : m / 18446744073709551616 = 0
  · rw [h0]
    have e : m % 18446744073709551616 = m := by omega
    rw [e]
    exact div64_zero m c hm (by omega) (by omega) (by omega)
  · obtain rfl : c = 1000 := by omega
    have h := div64_1000 (m / 18446744073709551616) (m % 18446744073709551616) (by omega) (by omega) (by omega) (by omega)
    have e : m / 18446744073709551616 * 18446744073709551616 + m % 18446744073709551616 = m := by omega
    rw [e] at h
    exact h
theorem over_fun (x y c : Int) (hx : -1099511627776 ≤ x ∧ x ≤ 1099511627776) (hy : -1099511627776 ≤ y ∧ y ≤ 1099511627776) (hcc : c = 1 ∨ c = 1000) :
    Fun Try.prog 39 [.u (.int .i64 x), .u (.int .i64 y), .u (.int .i64 c)] (· = .u (.int .i64 (Pm.over x y c))) := by
  obtain ⟨m, hm⟩ : ∃ m : Int, m = (x.natAbs : Int) * (y.natAbs : Int) := ⟨_, rfl⟩
  have hm0 : 0 ≤ m := by rw [hm]; exact Int.mul_nonneg (by omega) (by omega)
  have hm1 : m ≤ 1208925819614629174706176 := by
    rw [hm]
    have := Int.mul_le_mul (a := (x.natAbs : Int)) (b := (y.natAbs : Int)) (c := 1099511627776) (d := 1099511627776) (by omega) (by omega) (by omega) (by omega)
    exact this
  have e1 : max x (-x) % 18446744073709551616 = (x.natAbs : Int) := by omega
  have e2 : max y (-y) % 18446744073709551616 = (y.natAbs : Int) := by omega
  have e3 : c % 18446744073709551616 = c := by omega
  have hq0 : 0 ≤ m / c ∧ m / c ≤ 1208925819614629174706176 := by rcases hcc with rfl | rfl <;> omega
  have hr0 : 0 ≤ m % c ∧ m % c < 1000 := by rcases hcc with rfl | rfl <;> omega
  have hov : Pm.over x y c = if 1099511627776 < m / c then 1099511627777 else if (x < 0 ↔ y < 0) then m / c else -m / c := by
    rw [Pm.over, ← hm]
    split
    · rfl
    · rw [Pm.abs_mul x y, ← hm]
      split <;> rfl
  (refine Fun.of_body Try.func39 rfl (by simp) fun Γ hn => ?_); simp only [entry, List.zipIdx_cons, List.zipIdx_nil, List.map_cons, List.map_nil, Nat.zero_add, Try.ntmps39]
  repeat' (first
    | (refine H_cons ?_; simp [e1, e2, e3])
    | (refine H_nil ?_)
    | (refine HD_nil ?_)
    | (refine HD_cons ?_; simp [e1, e2, e3])
    | (refine HD_guardU rfl (by simp [e1, e2, e3]) ?_; simp [e1, e2, e3])
    | (refine HD_guard rfl (by simp [e1, e2, e3]) (fun hc => ?_) (fun hc => ?_) <;> (try simp [e1, e2, e3] at hc) <;> (try (exfalso; omega)) <;> (try simp [e1, e2, e3]))
    | (refine V_seq ?_)
    | (refine V_region1 fun k hk => ?_; simp [e1, e2, e3])
    | (refine V_drawV rfl (by kernel_rfl) (by kernel_rfl) fun k hk => ?_; simp [e1, e2, e3])
    | (refine V_drawE rfl (by kernel_rfl) (by kernel_rfl) (by simp [hn]) fun C k hC hk => ?_; simp [e1, e2, e3])
    | (refine HD2_nil (hC _ (by kernel_rfl)) (hk _ ?_); clear hC hk C k)
    | (refine HD2_val rfl ?_; simp [e1, e2, e3])
    | (refine HD2_chg rfl ?_; simp [e1, e2, e3])
    | (refine HD2_guardU rfl (by simp [e1, e2, e3]) ?_; simp [e1, e2, e3])
    | (refine HD2_guard rfl (by simp [e1, e2, e3]) (fun hc => ?_) (fun hc => ?_) <;> (try simp [e1, e2, e3] at hc) <;> (try (exfalso; omega)) <;> (try simp [e1, e2, e3]))
    | (refine V_block ?_)
        | (refine V_ret ?_)
    | (refine V_exit ?_)
    | (refine V_skip ?_)
    | (refine R_seq ?_)
    | (refine R_seq_ret ?_)
    | (refine R_seq_exit ?_)
    | (refine R_blk_ret ?_)
    | (refine R_blk ?_)
    | (refine R_blk_exit ?_)
    | (refine R_blk_other (by decide) ?_)
    | (refine R_loop_ret ?_)
    | (refine R_loop_exit ?_)
    | (refine R_loop ?_)
    | (refine R_done ?_)
    | (refine hk _ ?_; clear hk k)
    | (refine ⟨by omega, ?_⟩)
    | (refine ⟨?_, by omega⟩)
    | (refine ⟨fun hc => ?_, fun hc => ?_⟩ <;> (try (exfalso; omega)))
    | (refine V_cond rfl (fun hc => ?_) (fun hc => ?_) <;> (try simp [e1, e2, e3] at hc) <;> (try (exfalso; omega)))
    | (intro hc <;> (try (exfalso; omega))))
  (first | (refine CallV.fun_ (mul64_fun' (x.natAbs : Int) (y.natAbs : Int) m (by omega) (by omega) (by omega) (by omega) hm.symm) (by rfl) (by first | assumption | (simp; done) | fail) (by first | (simp; done) | (simp; rfl)) (by first | (simp; done) | fail) ?_ <;> (try simp)) | (refine CallP.fun_ (mul64_fun' (x.natAbs : Int) (y.natAbs : Int) m (by omega) (by omega) (by omega) (by omega) hm.symm) (by rfl) (by first | assumption | (simp; done) | fail) (by first | (simp; done) | (simp; rfl)) (by first | (simp; done) | fail) (fun d hd => ?_); subst hd; (try simp)))
  repeat' (first
    | (refine H_cons ?_; simp [e1, e2, e3])
    | (refine H_nil ?_)
    | (refine HD_nil ?_)
    | (refine HD_cons ?_; simp [e1, e2, e3])
    | (refine HD_guardU rfl (by simp [e1, e2, e3]) ?_; simp [e1, e2, e3])
    | (refine HD_guard rfl (by simp [e1, e2, e3]) (fun hc => ?_) (fun hc => ?_) <;> (try simp [e1, e2, e3] at hc) <;> (try (exfalso; omega)) <;> (try simp [e1, e2, e3]))
    | (refine V_seq ?_)
    | (refine V_region1 fun k hk => ?_; simp [e1, e2, e3])
    | (refine V_drawV rfl (by kernel_rfl) (by kernel_rfl) fun k hk => ?_; simp [e1, e2, e3])
    | (refine V_drawE rfl (by kernel_rfl) (by kernel_rfl) (by simp [hn]) fun C k hC hk => ?_; simp [e1, e2, e3])
    | (refine HD2_nil (hC _ (by kernel_rfl)) (hk _ ?_); clear hC hk C k)
    | (refine HD2_val rfl ?_; simp [e1, e2, e3])
    | (refine HD2_chg rfl ?_; simp [e1, e2, e3])
    | (refine HD2_guardU rfl (by simp [e1, e2, e3]) ?_; simp [e1, e2, e3])
    | (refine HD2_guard rfl (by simp [e1, e2, e3]) (fun hc => ?_) (fun hc => ?_) <;> (try simp [e1, e2, e3] at hc) <;> (try (exfalso; omega)) <;> (try simp [e1, e2, e3]))
    | (refine V_block ?_)
        | (refine V_ret ?_)
    | (refine V_exit ?_)
    | (refine V_skip ?_)
    | (refine R_seq ?_)
    | (refine R_seq_ret ?_)
    | (refine R_seq_exit ?_)
    | (refine R_blk_ret ?_)
    | (refine R_blk ?_)
    | (refine R_blk_exit ?_)
    | (refine R_blk_other (by decide) ?_)
    | (refine R_loop_ret ?_)
    | (refine R_loop_exit ?_)
    | (refine R_loop ?_)
    | (refine R_done ?_)
    | (refine hk _ ?_; clear hk k)
    | (refine ⟨by omega, ?_⟩)
    | (refine ⟨?_, by omega⟩)
    | (refine ⟨fun hc => ?_, fun hc => ?_⟩ <;> (try (exfalso; omega)))
    | (refine V_cond rfl (fun hc => ?_) (fun hc => ?_) <;> (try simp [e1, e2, e3] at hc) <;> (try (exfalso; omega)))
    | (intro hc <;> (try (exfalso; omega))))
  · (refine EndOK.val (.inr rfl) ?_; simp [resD, oneOrTup, pureD, Try.results39])
    rw [hov]
    rcases hcc with rfl | rfl <;> split <;> omega
  (first | (refine CallV.fun_ (div64_fun m c hm0 hm1 hcc (by omega)) (by rfl) (by first | assumption | (simp; done) | fail) (by first | (simp; done) | (simp; rfl)) (by first | (simp; done) | fail) ?_ <;> (try simp)) | (refine CallP.fun_ (div64_fun m c hm0 hm1 hcc (by omega)) (by rfl) (by first | assumption | (simp; done) | fail) (by first | (simp; done) | (simp; rfl)) (by first | (simp; done) | fail) (fun d hd => ?_); subst hd; (try simp)))
  repeat' (first
    | (refine H_cons ?_; simp [e1, e2, e3])
    | (refine H_nil ?_)
    | (refine HD_nil ?_)
    | (refine HD_cons ?_; simp [e1, e2, e3])
    | (refine HD_guardU rfl (by simp [e1, e2, e3]) ?_; simp [e1, e2, e3])
    | (refine HD_guard rfl (by simp [e1, e2, e3]) (fun hc => ?_) (fun hc => ?_) <;> (try simp [e1, e2, e3] at hc) <;> (try (exfalso; omega)) <;> (try simp [e1, e2, e3]))
    | (refine V_seq ?_)
    | (refine V_region1 fun k hk => ?_; simp [e1, e2, e3])
    | (refine V_drawV rfl (by kernel_rfl) (by kernel_rfl) fun k hk => ?_; simp [e1, e2, e3])
    | (refine V_drawE rfl (by kernel_rfl) (by kernel_rfl) (by simp [hn]) fun C k hC hk => ?_; simp [e1, e2, e3])
    | (refine HD2_nil (hC _ (by kernel_rfl)) (hk _ ?_); clear hC hk C k)
    | (refine HD2_val rfl ?_; simp [e1, e2, e3])
    | (refine HD2_chg rfl ?_; simp [e1, e2, e3])
    | (refine HD2_guardU rfl (by simp [e1, e2, e3]) ?_; simp [e1, e2, e3])
    | (refine HD2_guard rfl (by simp [e1, e2, e3]) (fun hc => ?_) (fun hc => ?_) <;> (try simp [e1, e2, e3] at hc) <;> (try (exfalso; omega)) <;> (try simp [e1, e2, e3]))
    | (refine V_block ?_)
        | (refine V_ret ?_)
    | (refine V_exit ?_)
    | (refine V_skip ?_)
    | (refine R_seq ?_)
    | (refine R_seq_ret ?_)
    | (refine R_seq_exit ?_)
    | (refine R_blk_ret ?_)
    | (refine R_blk ?_)
    | (refine R_blk_exit ?_)
    | (refine R_blk_other (by decide) ?_)
    | (refine R_loop_ret ?_)
    | (refine R_loop_exit ?_)
    | (refine R_loop ?_)
    | (refine R_done ?_)
    | (refine hk _ ?_; clear hk k)
    | (refine ⟨by omega, ?_⟩)
    | (refine ⟨?_, by omega⟩)
    | (refine ⟨fun hc => ?_, fun hc => ?_⟩ <;> (try (exfalso; omega)))
    | (refine V_cond rfl (fun hc => ?_) (fun hc => ?_) <;> (try simp [e1, e2, e3] at hc) <;> (try (exfalso; omega)))
    | (intro hc <;> (try (exfalso; omega))))
  all_goals
    (refine EndOK.val (.inr rfl) ?_; simp [resD, oneOrTup, pureD, Try.results39])
    rw [hov]
    rcases hcc with rfl | rfl
  all_goals try omega
  all_goals
    rw [if_neg (by omega)]
    split <;> omega
end Go.Proofs.Ytblmompdcammeaa
