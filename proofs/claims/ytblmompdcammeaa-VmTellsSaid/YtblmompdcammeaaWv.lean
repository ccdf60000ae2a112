/- The reference's functions on numbers. -/
import Derived.Test.YtblmompdcammeaaWq
import Derived.Test.YtblmompdcammeaaVLN
set_option linter.all false
namespace Go.Pm
theorem tdiv_abs (a b : Int) : (a.tdiv b).natAbs ≤ a.natAbs := by rw [Int.natAbs_tdiv]; exact Nat.div_le_self _ _
def okv (n : Int) : Prop := -1099511627776 ≤ n ∧ n ≤ 1099511627776
/-- a divides the room: the bound on the other factor. -/
theorem room_iff (x y n : Nat) (h : x ≠ 0) : n / x < y ↔ n < x * y := by
  rw [Nat.div_lt_iff_lt_mul (Nat.pos_of_ne_zero h), Nat.mul_comm]
theorem tdiv_nat (n x : Nat) : (n : Int).tdiv (x : Int) = ((n / x : Nat) : Int) := by
  rw [Int.tdiv_eq_ediv_of_nonneg (by omega)]; rfl
theorem mul_abs (x y : Int) : (x * y).natAbs = x.natAbs * y.natAbs := Int.natAbs_mul x y
end Go.Pm
namespace Go.Proofs.Ytblmompdcammeaa
open Go Go.VL
attribute [local simp] hcons hstep evPure opd uOf putOK St.put St.at getK binD binI binS binB nilD aggD eqUs cmpK shiftI arith unD convD pickD loadD cellsAt fieldAddrD fieldD indexAddrD indexD sliceD cutD lenD minmaxD nilCheckD buildD fillD cellsD isOne ones setAll mkAgg allU allocD boxD storeD St.add buildSliceD appendD rowsOf makeD setOb getK_setOb getK_del getK_cons stripL strip guardTmp entry chunks zcells valD argsV argsW argW argU1 argU0 argsU0 argsU1 calleeOf scalarD scalarU delAll effD St.effS applyW mkD rdIds lentIds callOf calleeOf freeOp D.ids Op.operands Call.operands isEffOp IntKind.bits allU2 allU2_append List.take_of_length_le List.range_succ
attribute [local irreducible] V G H HD HD2 RunK Eff CallP CallV EndOK Fun Ret FinOK LoopI LoopW EndW
theorem rin_fun (n : Int) : Fun Try.prog 34 [.u (.int .i64 n)] (· = .u (.bool (okv n))) := by
  unfold okv
  (refine Fun.of_body Try.func34 rfl (by simp) fun Γ hn => ?_); simp only [entry, List.zipIdx_cons, List.zipIdx_nil, List.map_cons, List.map_nil, Nat.zero_add, Try.ntmps34]
  repeat' (first
    | (refine H_cons ?_; simp)
    | (refine H_nil ?_)
    | (refine HD_nil ?_)
    | (refine HD_cons ?_; simp)
    | (refine HD_guardU rfl (by simp) ?_; simp)
    | (refine HD_guard rfl (by simp) (fun hc => ?_) (fun hc => ?_) <;> (try simp at hc) <;> (try (exfalso; omega)) <;> (try simp))
    | (refine V_seq ?_)
    | (refine V_region1 fun k hk => ?_; simp)
    | (refine V_drawV rfl (by kernel_rfl) (by kernel_rfl) fun k hk => ?_; simp)
    | (refine V_drawE rfl (by kernel_rfl) (by kernel_rfl) (by simp [hn]) fun C k hC hk => ?_; simp)
    | (refine HD2_nil (hC _ (by kernel_rfl)) (hk _ ?_); clear hC hk C k)
    | (refine HD2_val rfl ?_; simp)
    | (refine HD2_chg rfl ?_; simp)
    | (refine HD2_guardU rfl (by simp) ?_; simp)
    | (refine HD2_guard rfl (by simp) (fun hc => ?_) (fun hc => ?_) <;> (try simp at hc) <;> (try (exfalso; omega)) <;> (try simp))
    | (refine V_block ?_)
        | (refine V_ret ?_)
    | (refine V_exit ?_)
    | (refine V_skip ?_)
    | (refine R_seq ?_)
    | (refine R_seq_ret ?_)
    | (refine R_seq_exit ?_)
    | (refine R_blk_ret ?_)
    | (refine R_blk ?_)
    | (refine R_blk_exit ?_)
    | (refine R_blk_other (by decide) ?_)
    | (refine R_loop_ret ?_)
    | (refine R_loop_exit ?_)
    | (refine R_loop ?_)
    | (refine R_done ?_)
    | (refine hk _ ?_; clear hk k)
    | (refine ⟨by omega, ?_⟩)
    | (refine ⟨?_, by omega⟩)
    | (refine ⟨fun hc => ?_, fun hc => ?_⟩ <;> (try (exfalso; omega)))
    | (refine V_cond rfl (fun hc => ?_) (fun hc => ?_) <;> (try simp at hc) <;> (try (exfalso; omega)))
    | (intro hc <;> (try (exfalso; omega))))
  all_goals
  (refine EndOK.val (.inr rfl) ?_; simp [resD, oneOrTup, pureD, Try.results34])
  all_goals omega
theorem size_fun (n : Int) (h : -4611686018427387904 ≤ n ∧ n ≤ 4611686018427387904) : Fun Try.prog 41 [.u (.int .i64 n)] (· = .u (.int .i64 (n.natAbs : Int))) := by
  (refine Fun.of_body Try.func41 rfl (by simp) fun Γ hn => ?_); simp only [entry, List.zipIdx_cons, List.zipIdx_nil, List.map_cons, List.map_nil, Nat.zero_add, Try.ntmps41]
  repeat' (first
    | (refine H_cons ?_; simp)
    | (refine H_nil ?_)
    | (refine HD_nil ?_)
    | (refine HD_cons ?_; simp)
    | (refine HD_guardU rfl (by simp) ?_; simp)
    | (refine HD_guard rfl (by simp) (fun hc => ?_) (fun hc => ?_) <;> (try simp at hc) <;> (try (exfalso; omega)) <;> (try simp))
    | (refine V_seq ?_)
    | (refine V_region1 fun k hk => ?_; simp)
    | (refine V_drawV rfl (by kernel_rfl) (by kernel_rfl) fun k hk => ?_; simp)
    | (refine V_drawE rfl (by kernel_rfl) (by kernel_rfl) (by simp [hn]) fun C k hC hk => ?_; simp)
    | (refine HD2_nil (hC _ (by kernel_rfl)) (hk _ ?_); clear hC hk C k)
    | (refine HD2_val rfl ?_; simp)
    | (refine HD2_chg rfl ?_; simp)
    | (refine HD2_guardU rfl (by simp) ?_; simp)
    | (refine HD2_guard rfl (by simp) (fun hc => ?_) (fun hc => ?_) <;> (try simp at hc) <;> (try (exfalso; omega)) <;> (try simp))
    | (refine V_block ?_)
        | (refine V_ret ?_)
    | (refine V_exit ?_)
    | (refine V_skip ?_)
    | (refine R_seq ?_)
    | (refine R_seq_ret ?_)
    | (refine R_seq_exit ?_)
    | (refine R_blk_ret ?_)
    | (refine R_blk ?_)
    | (refine R_blk_exit ?_)
    | (refine R_blk_other (by decide) ?_)
    | (refine R_loop_ret ?_)
    | (refine R_loop_exit ?_)
    | (refine R_loop ?_)
    | (refine R_done ?_)
    | (refine hk _ ?_; clear hk k)
    | (refine ⟨by omega, ?_⟩)
    | (refine ⟨?_, by omega⟩)
    | (refine ⟨fun hc => ?_, fun hc => ?_⟩ <;> (try (exfalso; omega)))
    | (refine V_cond rfl (fun hc => ?_) (fun hc => ?_) <;> (try simp at hc) <;> (try (exfalso; omega)))
    | (intro hc <;> (try (exfalso; omega))))
  all_goals
  (refine EndOK.val (.inr rfl) ?_; simp [resD, oneOrTup, pureD, Try.results41])
  all_goals omega
theorem rfloor_fun (a b : Int) (hb : b ≠ 0) (h : -4611686018427387904 ≤ a ∧ a ≤ 4611686018427387904) : Fun Try.prog 37 [.u (.int .i64 a), .u (.int .i64 b)] (· = .u (.int .i64 (a.fdiv b))) := by
  have h1 := Pm.tdiv_abs a b
  have h2 : -4611686018427387904 ≤ a.tdiv b ∧ a.tdiv b ≤ 4611686018427387904 := by omega
  clear h1
  (refine Fun.of_body Try.func37 rfl (by simp) fun Γ hn => ?_); simp only [entry, List.zipIdx_cons, List.zipIdx_nil, List.map_cons, List.map_nil, Nat.zero_add, Try.ntmps37]
  repeat' (first
    | (refine H_cons ?_; simp)
    | (refine H_nil ?_)
    | (refine HD_nil ?_)
    | (refine HD_cons ?_; simp)
    | (refine HD_guardU rfl (by simp) ?_; simp)
    | (refine HD_guard rfl (by simp) (fun hc => ?_) (fun hc => ?_) <;> (try simp at hc) <;> (try (exfalso; omega)) <;> (try simp))
    | (refine V_seq ?_)
    | (refine V_region1 fun k hk => ?_; simp)
    | (refine V_drawV rfl (by kernel_rfl) (by kernel_rfl) fun k hk => ?_; simp)
    | (refine V_drawE rfl (by kernel_rfl) (by kernel_rfl) (by simp [hn]) fun C k hC hk => ?_; simp)
    | (refine HD2_nil (hC _ (by kernel_rfl)) (hk _ ?_); clear hC hk C k)
    | (refine HD2_val rfl ?_; simp)
    | (refine HD2_chg rfl ?_; simp)
    | (refine HD2_guardU rfl (by simp) ?_; simp)
    | (refine HD2_guard rfl (by simp) (fun hc => ?_) (fun hc => ?_) <;> (try simp at hc) <;> (try (exfalso; omega)) <;> (try simp))
    | (refine V_block ?_)
        | (refine V_ret ?_)
    | (refine V_exit ?_)
    | (refine V_skip ?_)
    | (refine R_seq ?_)
    | (refine R_seq_ret ?_)
    | (refine R_seq_exit ?_)
    | (refine R_blk_ret ?_)
    | (refine R_blk ?_)
    | (refine R_blk_exit ?_)
    | (refine R_blk_other (by decide) ?_)
    | (refine R_loop_ret ?_)
    | (refine R_loop_exit ?_)
    | (refine R_loop ?_)
    | (refine R_done ?_)
    | (refine hk _ ?_; clear hk k)
    | (refine ⟨by omega, ?_⟩)
    | (refine ⟨?_, by omega⟩)
    | (refine ⟨fun hc => ?_, fun hc => ?_⟩ <;> (try (exfalso; omega)))
    | (refine V_cond rfl (fun hc => ?_) (fun hc => ?_) <;> (try simp at hc) <;> (try (exfalso; omega)))
    | (intro hc <;> (try (exfalso; omega))))
  all_goals
  (refine EndOK.val (.inr rfl) ?_; simp [resD, oneOrTup, pureD, Try.results37])
  all_goals rw [Pm.floor_eq a b hb]
  all_goals split <;> omega
theorem mul_fun (a b : Int) (ha : -1099511627776 ≤ a ∧ a ≤ 1099511627776) (hb : -1099511627776 ≤ b ∧ b ≤ 1099511627776) :
    Fun Try.prog 35 [.u (.int .i64 a), .u (.int .i64 b)] (· = .tup [.u (.int .i64 (if okv (a * b) then a * b else 0)), .u (.bool (okv (a * b)))]) := by
  by_cases h0 : a = 0
  · subst h0
    (refine Fun.of_body Try.func35 rfl (by simp) fun Γ hn => ?_); simp only [entry, List.zipIdx_cons, List.zipIdx_nil, List.map_cons, List.map_nil, Nat.zero_add, Try.ntmps35]
    repeat' (first
    | (first | (refine CallV.fun_ (size_fun b (by omega)) (by rfl) (by first | assumption | (simp; done) | fail) (by first | (simp; done) | (simp; rfl)) (by first | (simp; done) | fail) ?_ <;> (try simp)) | (refine CallP.fun_ (size_fun b (by omega)) (by rfl) (by first | assumption | (simp; done) | fail) (by first | (simp; done) | (simp; rfl)) (by first | (simp; done) | fail) (fun d hd => ?_); subst hd; (try simp)))
    | (first | (refine CallV.fun_ (size_fun 0 (by omega)) (by rfl) (by first | assumption | (simp; done) | fail) (by first | (simp; done) | (simp; rfl)) (by first | (simp; done) | fail) ?_ <;> (try simp)) | (refine CallP.fun_ (size_fun 0 (by omega)) (by rfl) (by first | assumption | (simp; done) | fail) (by first | (simp; done) | (simp; rfl)) (by first | (simp; done) | fail) (fun d hd => ?_); subst hd; (try simp)))
    | (refine H_cons ?_; simp)
    | (refine H_nil ?_)
    | (refine HD_nil ?_)
    | (refine HD_cons ?_; simp)
    | (refine HD_guardU rfl (by simp) ?_; simp)
    | (refine HD_guard rfl (by simp) (fun hc => ?_) (fun hc => ?_) <;> (try simp at hc) <;> (try (exfalso; omega)) <;> (try simp))
    | (refine V_seq ?_)
    | (refine V_region1 fun k hk => ?_; simp)
    | (refine V_drawV rfl (by kernel_rfl) (by kernel_rfl) fun k hk => ?_; simp)
    | (refine V_drawE rfl (by kernel_rfl) (by kernel_rfl) (by simp [hn]) fun C k hC hk => ?_; simp)
    | (refine HD2_nil (hC _ (by kernel_rfl)) (hk _ ?_); clear hC hk C k)
    | (refine HD2_val rfl ?_; simp)
    | (refine HD2_chg rfl ?_; simp)
    | (refine HD2_guardU rfl (by simp) ?_; simp)
    | (refine HD2_guard rfl (by simp) (fun hc => ?_) (fun hc => ?_) <;> (try simp at hc) <;> (try (exfalso; omega)) <;> (try simp))
    | (refine V_block ?_)
        | (refine V_ret ?_)
    | (refine V_exit ?_)
    | (refine V_skip ?_)
    | (refine R_seq ?_)
    | (refine R_seq_ret ?_)
    | (refine R_seq_exit ?_)
    | (refine R_blk_ret ?_)
    | (refine R_blk ?_)
    | (refine R_blk_exit ?_)
    | (refine R_blk_other (by decide) ?_)
    | (refine R_loop_ret ?_)
    | (refine R_loop_exit ?_)
    | (refine R_loop ?_)
    | (refine R_done ?_)
    | (refine hk _ ?_; clear hk k)
    | (refine ⟨by omega, ?_⟩)
    | (refine ⟨?_, by omega⟩)
    | (refine ⟨fun hc => ?_, fun hc => ?_⟩ <;> (try (exfalso; omega)))
    | (refine V_cond rfl (fun hc => ?_) (fun hc => ?_) <;> (try simp at hc) <;> (try (exfalso; omega)))
    | (intro hc <;> (try (exfalso; omega))))
    all_goals
      (refine EndOK.val (.inr rfl) ?_; simp [resD, oneOrTup, pureD, Try.results35])
    all_goals simp [okv]
  have hn : a.natAbs ≠ 0 := by omega
  have hr := Pm.room_iff a.natAbs b.natAbs 1099511627776 hn
  rw [← Pm.mul_abs] at hr
  have ht : (1099511627776 : Int).tdiv (a.natAbs : Int) = ((1099511627776 / a.natAbs : Nat) : Int) := Pm.tdiv_nat 1099511627776 a.natAbs
  have hq : 1099511627776 / a.natAbs ≤ 1099511627776 := Nat.div_le_self _ _
  generalize 1099511627776 / a.natAbs = q at hr ht hq
  have hok : okv (a * b) = decide ((a * b).natAbs ≤ 1099511627776) := by unfold okv; rw [Bool.eq_iff_iff]; simp; omega
  rw [hok]
  have hz : (a.natAbs : Int) ≠ 0 := by omega
  have hs1 := size_fun b (by omega)
  have hs2 := size_fun a (by omega)
  generalize hM : a * b = m at *
  by_cases hm : m.natAbs ≤ 1099511627776
  all_goals
    (refine Fun.of_body Try.func35 rfl (by simp) fun Γ hn => ?_); simp only [entry, List.zipIdx_cons, List.zipIdx_nil, List.map_cons, List.map_nil, Nat.zero_add, Try.ntmps35]
    repeat' (first
    | (first | (refine CallV.fun_ (hs1) (by rfl) (by first | assumption | (simp; done) | fail) (by first | (simp [h0, ht, hz, hM]; done) | (simp [h0, ht, hz, hM]; rfl)) (by first | (simp; done) | fail) ?_ <;> (try simp [h0, ht, hz, hM])) | (refine CallP.fun_ (hs1) (by rfl) (by first | assumption | (simp; done) | fail) (by first | (simp [h0, ht, hz, hM]; done) | (simp [h0, ht, hz, hM]; rfl)) (by first | (simp; done) | fail) (fun d hd => ?_); subst hd; (try simp [h0, ht, hz, hM])))
    | (first | (refine CallV.fun_ (hs2) (by rfl) (by first | assumption | (simp; done) | fail) (by first | (simp [h0, ht, hz, hM]; done) | (simp [h0, ht, hz, hM]; rfl)) (by first | (simp; done) | fail) ?_ <;> (try simp [h0, ht, hz, hM])) | (refine CallP.fun_ (hs2) (by rfl) (by first | assumption | (simp; done) | fail) (by first | (simp [h0, ht, hz, hM]; done) | (simp [h0, ht, hz, hM]; rfl)) (by first | (simp; done) | fail) (fun d hd => ?_); subst hd; (try simp [h0, ht, hz, hM])))
    | (refine H_cons ?_; simp [h0, ht, hz, hM])
    | (refine H_nil ?_)
    | (refine HD_nil ?_)
    | (refine HD_cons ?_; simp [h0, ht, hz, hM])
    | (refine HD_guardU rfl (by simp [h0, ht, hz, hM]) ?_; simp [h0, ht, hz, hM])
    | (refine HD_guard rfl (by simp [h0, ht, hz, hM]) (fun hc => ?_) (fun hc => ?_) <;> (try simp [h0, ht, hz, hM] at hc) <;> (try (exfalso; omega)) <;> (try simp [h0, ht, hz, hM]))
    | (refine V_seq ?_)
    | (refine V_region1 fun k hk => ?_; simp [h0, ht, hz, hM])
    | (refine V_drawV rfl (by kernel_rfl) (by kernel_rfl) fun k hk => ?_; simp [h0, ht, hz, hM])
    | (refine V_drawE rfl (by kernel_rfl) (by kernel_rfl) (by simp [hn]) fun C k hC hk => ?_; simp [h0, ht, hz, hM])
    | (refine HD2_nil (hC _ (by kernel_rfl)) (hk _ ?_); clear hC hk C k)
    | (refine HD2_val rfl ?_; simp [h0, ht, hz, hM])
    | (refine HD2_chg rfl ?_; simp [h0, ht, hz, hM])
    | (refine HD2_guardU rfl (by simp [h0, ht, hz, hM]) ?_; simp [h0, ht, hz, hM])
    | (refine HD2_guard rfl (by simp [h0, ht, hz, hM]) (fun hc => ?_) (fun hc => ?_) <;> (try simp [h0, ht, hz, hM] at hc) <;> (try (exfalso; omega)) <;> (try simp [h0, ht, hz, hM]))
    | (refine V_block ?_)
        | (refine V_ret ?_)
    | (refine V_exit ?_)
    | (refine V_skip ?_)
    | (refine R_seq ?_)
    | (refine R_seq_ret ?_)
    | (refine R_seq_exit ?_)
    | (refine R_blk_ret ?_)
    | (refine R_blk ?_)
    | (refine R_blk_exit ?_)
    | (refine R_blk_other (by decide) ?_)
    | (refine R_loop_ret ?_)
    | (refine R_loop_exit ?_)
    | (refine R_loop ?_)
    | (refine R_done ?_)
    | (refine hk _ ?_; clear hk k)
    | (refine ⟨by omega, ?_⟩)
    | (refine ⟨?_, by omega⟩)
    | (refine ⟨fun hc => ?_, fun hc => ?_⟩ <;> (try (exfalso; omega)))
    | (refine V_cond rfl (fun hc => ?_) (fun hc => ?_) <;> (try simp [h0, ht, hz, hM] at hc) <;> (try (exfalso; omega)))
    | (intro hc <;> (try (exfalso; omega))))
    all_goals
      (refine EndOK.val (.inr rfl) ?_; simp [resD, oneOrTup, pureD, Try.results35])
    all_goals
      omega
/-- The reference's product by a thousandth. -/
theorem scale_num (a b : Int) : (a * b).fdiv 1000 = a.fdiv 1000 * b + ((a - 1000 * a.fdiv 1000) * b).fdiv 1000 := by
  rw [Int.fdiv_eq_ediv_of_nonneg _ (by omega), Int.fdiv_eq_ediv_of_nonneg _ (by omega), Int.fdiv_eq_ediv_of_nonneg _ (by omega)]
  have e : a * b = (a - 1000 * (a / 1000)) * b + 1000 * (a / 1000 * b) := by
    rw [Int.sub_mul, ← Int.mul_assoc]; omega
  conv => lhs; rw [e]
  rw [Int.add_mul_ediv_left _ _ (by omega)]
  omega
theorem scale_fun (a b : Int) (ha : -1099511627776 ≤ a ∧ a ≤ 1099511627776) (hb : -1099511627776 ≤ b ∧ b ≤ 1099511627776) :
    ∃ n ok, ok = okv ((a * b).fdiv 1000) ∧ (ok = true → n = (a * b).fdiv 1000) ∧ Fun Try.prog 36 [.u (.int .i64 a), .u (.int .i64 b)] (· = .tup [.u (.int .i64 n), .u (.bool ok)]) := by
  have hn := scale_num a b
  have hf := rfloor_fun a 1000 (by omega) (by omega)
  have hq0 : a.fdiv 1000 = a / 1000 := Int.fdiv_eq_ediv_of_nonneg _ (by omega)
  have hqb : -1099511628 ≤ a.fdiv 1000 ∧ a.fdiv 1000 ≤ 1099511627 := by rw [hq0]; omega
  have hr0 : 0 ≤ a - 1000 * a.fdiv 1000 ∧ a - 1000 * a.fdiv 1000 < 1000 := by rw [hq0]; omega
  clear hq0
  generalize a.fdiv 1000 = q at *
  generalize hr : a - 1000 * q = r at *
  have hrb : -1099511627776000 ≤ r * b ∧ r * b ≤ 1099511627776000 := by
    have h1 : (r * b).natAbs = r.natAbs * b.natAbs := Int.natAbs_mul r b
    have h2 : r.natAbs * b.natAbs ≤ 1000 * 1099511627776 := Nat.mul_le_mul (by omega) (by omega)
    omega
  have hg := rfloor_fun (r * b) 1000 (by omega) (by omega)
  have hw : (r * b).fdiv 1000 = (r * b) / 1000 := Int.fdiv_eq_ediv_of_nonneg _ (by omega)
  have hwb : -1099511627776 ≤ (r * b).fdiv 1000 ∧ (r * b).fdiv 1000 ≤ 1099511627776 := by rw [hw]; omega
  clear hw
  generalize hRB : r * b = rb at *
  generalize rb.fdiv 1000 = w at *
  have hs1 := size_fun b (by omega)
  have hs2 := size_fun q (by omega)
  by_cases h0 : q = 0
  · subst h0
    refine ⟨w, okv w, by rw [hn]; simp, fun _ => by rw [hn]; simp, ?_⟩
    have hin := rin_fun w
    have hra : a = r := by omega
    subst hra
    clear hr
    (refine Fun.of_body Try.func36 rfl (by simp) fun Γ hn => ?_); simp only [entry, List.zipIdx_cons, List.zipIdx_nil, List.map_cons, List.map_nil, Nat.zero_add, Try.ntmps36]
    repeat' (first
    | (first | (refine CallV.fun_ (hf) (by rfl) (by first | assumption | (simp; done) | fail) (by first | (simp [hRB]; done) | (simp [hRB]; rfl)) (by first | (simp; done) | fail) ?_ <;> (try simp [hRB])) | (refine CallP.fun_ (hf) (by rfl) (by first | assumption | (simp; done) | fail) (by first | (simp [hRB]; done) | (simp [hRB]; rfl)) (by first | (simp; done) | fail) (fun d hd => ?_); subst hd; (try simp [hRB])))
    | (first | (refine CallV.fun_ (hg) (by rfl) (by first | assumption | (simp; done) | fail) (by first | (simp [hRB]; done) | (simp [hRB]; rfl)) (by first | (simp; done) | fail) ?_ <;> (try simp [hRB])) | (refine CallP.fun_ (hg) (by rfl) (by first | assumption | (simp; done) | fail) (by first | (simp [hRB]; done) | (simp [hRB]; rfl)) (by first | (simp; done) | fail) (fun d hd => ?_); subst hd; (try simp [hRB])))
    | (first | (refine CallV.fun_ (hs1) (by rfl) (by first | assumption | (simp; done) | fail) (by first | (simp [hRB]; done) | (simp [hRB]; rfl)) (by first | (simp; done) | fail) ?_ <;> (try simp [hRB])) | (refine CallP.fun_ (hs1) (by rfl) (by first | assumption | (simp; done) | fail) (by first | (simp [hRB]; done) | (simp [hRB]; rfl)) (by first | (simp; done) | fail) (fun d hd => ?_); subst hd; (try simp [hRB])))
    | (first | (refine CallV.fun_ (hs2) (by rfl) (by first | assumption | (simp; done) | fail) (by first | (simp [hRB]; done) | (simp [hRB]; rfl)) (by first | (simp; done) | fail) ?_ <;> (try simp [hRB])) | (refine CallP.fun_ (hs2) (by rfl) (by first | assumption | (simp; done) | fail) (by first | (simp [hRB]; done) | (simp [hRB]; rfl)) (by first | (simp; done) | fail) (fun d hd => ?_); subst hd; (try simp [hRB])))
    | (first | (refine CallV.fun_ (hin) (by rfl) (by first | assumption | (simp; done) | fail) (by first | (simp [hRB]; done) | (simp [hRB]; rfl)) (by first | (simp; done) | fail) ?_ <;> (try simp [hRB])) | (refine CallP.fun_ (hin) (by rfl) (by first | assumption | (simp; done) | fail) (by first | (simp [hRB]; done) | (simp [hRB]; rfl)) (by first | (simp; done) | fail) (fun d hd => ?_); subst hd; (try simp [hRB])))
    | (refine H_cons ?_; simp [hRB])
    | (refine H_nil ?_)
    | (refine HD_nil ?_)
    | (refine HD_cons ?_; simp [hRB])
    | (refine HD_guardU rfl (by simp [hRB]) ?_; simp [hRB])
    | (refine HD_guard rfl (by simp [hRB]) (fun hc => ?_) (fun hc => ?_) <;> (try simp [hRB] at hc) <;> (try (exfalso; omega)) <;> (try simp [hRB]))
    | (refine V_seq ?_)
    | (refine V_region1 fun k hk => ?_; simp [hRB])
    | (refine V_drawV rfl (by kernel_rfl) (by kernel_rfl) fun k hk => ?_; simp [hRB])
    | (refine V_drawE rfl (by kernel_rfl) (by kernel_rfl) (by simp [hn]) fun C k hC hk => ?_; simp [hRB])
    | (refine HD2_nil (hC _ (by kernel_rfl)) (hk _ ?_); clear hC hk C k)
    | (refine HD2_val rfl ?_; simp [hRB])
    | (refine HD2_chg rfl ?_; simp [hRB])
    | (refine HD2_guardU rfl (by simp [hRB]) ?_; simp [hRB])
    | (refine HD2_guard rfl (by simp [hRB]) (fun hc => ?_) (fun hc => ?_) <;> (try simp [hRB] at hc) <;> (try (exfalso; omega)) <;> (try simp [hRB]))
    | (refine V_block ?_)
        | (refine V_ret ?_)
    | (refine V_exit ?_)
    | (refine V_skip ?_)
    | (refine R_seq ?_)
    | (refine R_seq_ret ?_)
    | (refine R_seq_exit ?_)
    | (refine R_blk_ret ?_)
    | (refine R_blk ?_)
    | (refine R_blk_exit ?_)
    | (refine R_blk_other (by decide) ?_)
    | (refine R_loop_ret ?_)
    | (refine R_loop_exit ?_)
    | (refine R_loop ?_)
    | (refine R_done ?_)
    | (refine hk _ ?_; clear hk k)
    | (refine ⟨by omega, ?_⟩)
    | (refine ⟨?_, by omega⟩)
    | (refine ⟨fun hc => ?_, fun hc => ?_⟩ <;> (try (exfalso; omega)))
    | (refine V_cond rfl (fun hc => ?_) (fun hc => ?_) <;> (try simp [hRB] at hc) <;> (try (exfalso; omega)))
    | (intro hc <;> (try (exfalso; omega))))
    all_goals
      (refine EndOK.val (.inr rfl) ?_; simp [resD, oneOrTup, pureD, Try.results36])
  have hqn : q.natAbs ≠ 0 := by omega
  have hrm := Pm.room_iff q.natAbs b.natAbs 4398046511104 hqn
  rw [← Pm.mul_abs] at hrm
  have ht : (4398046511104 : Int).tdiv (q.natAbs : Int) = ((4398046511104 / q.natAbs : Nat) : Int) := Pm.tdiv_nat 4398046511104 q.natAbs
  have hpb : 4398046511104 / q.natAbs ≤ 4398046511104 := Nat.div_le_self _ _
  generalize 4398046511104 / q.natAbs = p at hrm ht hpb
  have hz : (q.natAbs : Int) ≠ 0 := by omega
  have hin := rin_fun (q * b + w)
  generalize hm : q * b = m at *
  by_cases hc0 : p < b.natAbs
  · refine ⟨0, false, ?_, (fun h => by cases h), ?_⟩
    · rw [hn]; unfold okv; symm; simp; omega
    (refine Fun.of_body Try.func36 rfl (by simp) fun Γ hn => ?_); simp only [entry, List.zipIdx_cons, List.zipIdx_nil, List.map_cons, List.map_nil, Nat.zero_add, Try.ntmps36]
    repeat' (first
    | (first | (refine CallV.fun_ (hf) (by rfl) (by first | assumption | (simp; done) | fail) (by first | (simp [hr, hRB, hm, ht, hz, h0]; done) | (simp [hr, hRB, hm, ht, hz, h0]; rfl)) (by first | (simp; done) | fail) ?_ <;> (try simp [hr, hRB, hm, ht, hz, h0])) | (refine CallP.fun_ (hf) (by rfl) (by first | assumption | (simp; done) | fail) (by first | (simp [hr, hRB, hm, ht, hz, h0]; done) | (simp [hr, hRB, hm, ht, hz, h0]; rfl)) (by first | (simp; done) | fail) (fun d hd => ?_); subst hd; (try simp [hr, hRB, hm, ht, hz, h0])))
    | (first | (refine CallV.fun_ (hg) (by rfl) (by first | assumption | (simp; done) | fail) (by first | (simp [hr, hRB, hm, ht, hz, h0]; done) | (simp [hr, hRB, hm, ht, hz, h0]; rfl)) (by first | (simp; done) | fail) ?_ <;> (try simp [hr, hRB, hm, ht, hz, h0])) | (refine CallP.fun_ (hg) (by rfl) (by first | assumption | (simp; done) | fail) (by first | (simp [hr, hRB, hm, ht, hz, h0]; done) | (simp [hr, hRB, hm, ht, hz, h0]; rfl)) (by first | (simp; done) | fail) (fun d hd => ?_); subst hd; (try simp [hr, hRB, hm, ht, hz, h0])))
    | (first | (refine CallV.fun_ (hs1) (by rfl) (by first | assumption | (simp; done) | fail) (by first | (simp [hr, hRB, hm, ht, hz, h0]; done) | (simp [hr, hRB, hm, ht, hz, h0]; rfl)) (by first | (simp; done) | fail) ?_ <;> (try simp [hr, hRB, hm, ht, hz, h0])) | (refine CallP.fun_ (hs1) (by rfl) (by first | assumption | (simp; done) | fail) (by first | (simp [hr, hRB, hm, ht, hz, h0]; done) | (simp [hr, hRB, hm, ht, hz, h0]; rfl)) (by first | (simp; done) | fail) (fun d hd => ?_); subst hd; (try simp [hr, hRB, hm, ht, hz, h0])))
    | (first | (refine CallV.fun_ (hs2) (by rfl) (by first | assumption | (simp; done) | fail) (by first | (simp [hr, hRB, hm, ht, hz, h0]; done) | (simp [hr, hRB, hm, ht, hz, h0]; rfl)) (by first | (simp; done) | fail) ?_ <;> (try simp [hr, hRB, hm, ht, hz, h0])) | (refine CallP.fun_ (hs2) (by rfl) (by first | assumption | (simp; done) | fail) (by first | (simp [hr, hRB, hm, ht, hz, h0]; done) | (simp [hr, hRB, hm, ht, hz, h0]; rfl)) (by first | (simp; done) | fail) (fun d hd => ?_); subst hd; (try simp [hr, hRB, hm, ht, hz, h0])))
    | (first | (refine CallV.fun_ (hin) (by rfl) (by first | assumption | (simp; done) | fail) (by first | (simp [hr, hRB, hm, ht, hz, h0]; done) | (simp [hr, hRB, hm, ht, hz, h0]; rfl)) (by first | (simp; done) | fail) ?_ <;> (try simp [hr, hRB, hm, ht, hz, h0])) | (refine CallP.fun_ (hin) (by rfl) (by first | assumption | (simp; done) | fail) (by first | (simp [hr, hRB, hm, ht, hz, h0]; done) | (simp [hr, hRB, hm, ht, hz, h0]; rfl)) (by first | (simp; done) | fail) (fun d hd => ?_); subst hd; (try simp [hr, hRB, hm, ht, hz, h0])))
    | (refine H_cons ?_; simp [hr, hRB, hm, ht, hz, h0])
    | (refine H_nil ?_)
    | (refine HD_nil ?_)
    | (refine HD_cons ?_; simp [hr, hRB, hm, ht, hz, h0])
    | (refine HD_guardU rfl (by simp [hr, hRB, hm, ht, hz, h0]) ?_; simp [hr, hRB, hm, ht, hz, h0])
    | (refine HD_guard rfl (by simp [hr, hRB, hm, ht, hz, h0]) (fun hc => ?_) (fun hc => ?_) <;> (try simp [hr, hRB, hm, ht, hz, h0] at hc) <;> (try (exfalso; omega)) <;> (try simp [hr, hRB, hm, ht, hz, h0]))
    | (refine V_seq ?_)
    | (refine V_region1 fun k hk => ?_; simp [hr, hRB, hm, ht, hz, h0])
    | (refine V_drawV rfl (by kernel_rfl) (by kernel_rfl) fun k hk => ?_; simp [hr, hRB, hm, ht, hz, h0])
    | (refine V_drawE rfl (by kernel_rfl) (by kernel_rfl) (by simp [hn]) fun C k hC hk => ?_; simp [hr, hRB, hm, ht, hz, h0])
    | (refine HD2_nil (hC _ (by kernel_rfl)) (hk _ ?_); clear hC hk C k)
    | (refine HD2_val rfl ?_; simp [hr, hRB, hm, ht, hz, h0])
    | (refine HD2_chg rfl ?_; simp [hr, hRB, hm, ht, hz, h0])
    | (refine HD2_guardU rfl (by simp [hr, hRB, hm, ht, hz, h0]) ?_; simp [hr, hRB, hm, ht, hz, h0])
    | (refine HD2_guard rfl (by simp [hr, hRB, hm, ht, hz, h0]) (fun hc => ?_) (fun hc => ?_) <;> (try simp [hr, hRB, hm, ht, hz, h0] at hc) <;> (try (exfalso; omega)) <;> (try simp [hr, hRB, hm, ht, hz, h0]))
    | (refine V_block ?_)
        | (refine V_ret ?_)
    | (refine V_exit ?_)
    | (refine V_skip ?_)
    | (refine R_seq ?_)
    | (refine R_seq_ret ?_)
    | (refine R_seq_exit ?_)
    | (refine R_blk_ret ?_)
    | (refine R_blk ?_)
    | (refine R_blk_exit ?_)
    | (refine R_blk_other (by decide) ?_)
    | (refine R_loop_ret ?_)
    | (refine R_loop_exit ?_)
    | (refine R_loop ?_)
    | (refine R_done ?_)
    | (refine hk _ ?_; clear hk k)
    | (refine ⟨by omega, ?_⟩)
    | (refine ⟨?_, by omega⟩)
    | (refine ⟨fun hc => ?_, fun hc => ?_⟩ <;> (try (exfalso; omega)))
    | (refine V_cond rfl (fun hc => ?_) (fun hc => ?_) <;> (try simp [hr, hRB, hm, ht, hz, h0] at hc) <;> (try (exfalso; omega)))
    | (intro hc <;> (try (exfalso; omega))))
    all_goals
      (refine EndOK.val (.inr rfl) ?_; simp [resD, oneOrTup, pureD, Try.results36])
  · have hmb : m.natAbs ≤ 4398046511104 := by omega
    refine ⟨m + w, okv (m + w), by rw [hn], fun _ => by rw [hn], ?_⟩
    (refine Fun.of_body Try.func36 rfl (by simp) fun Γ hn => ?_); simp only [entry, List.zipIdx_cons, List.zipIdx_nil, List.map_cons, List.map_nil, Nat.zero_add, Try.ntmps36]
    repeat' (first
    | (first | (refine CallV.fun_ (hf) (by rfl) (by first | assumption | (simp; done) | fail) (by first | (simp [hr, hRB, hm, ht, hz, h0]; done) | (simp [hr, hRB, hm, ht, hz, h0]; rfl)) (by first | (simp; done) | fail) ?_ <;> (try simp [hr, hRB, hm, ht, hz, h0])) | (refine CallP.fun_ (hf) (by rfl) (by first | assumption | (simp; done) | fail) (by first | (simp [hr, hRB, hm, ht, hz, h0]; done) | (simp [hr, hRB, hm, ht, hz, h0]; rfl)) (by first | (simp; done) | fail) (fun d hd => ?_); subst hd; (try simp [hr, hRB, hm, ht, hz, h0])))
    | (first | (refine CallV.fun_ (hg) (by rfl) (by first | assumption | (simp; done) | fail) (by first | (simp [hr, hRB, hm, ht, hz, h0]; done) | (simp [hr, hRB, hm, ht, hz, h0]; rfl)) (by first | (simp; done) | fail) ?_ <;> (try simp [hr, hRB, hm, ht, hz, h0])) | (refine CallP.fun_ (hg) (by rfl) (by first | assumption | (simp; done) | fail) (by first | (simp [hr, hRB, hm, ht, hz, h0]; done) | (simp [hr, hRB, hm, ht, hz, h0]; rfl)) (by first | (simp; done) | fail) (fun d hd => ?_); subst hd; (try simp [hr, hRB, hm, ht, hz, h0])))
    | (first | (refine CallV.fun_ (hs1) (by rfl) (by first | assumption | (simp; done) | fail) (by first | (simp [hr, hRB, hm, ht, hz, h0]; done) | (simp [hr, hRB, hm, ht, hz, h0]; rfl)) (by first | (simp; done) | fail) ?_ <;> (try simp [hr, hRB, hm, ht, hz, h0])) | (refine CallP.fun_ (hs1) (by rfl) (by first | assumption | (simp; done) | fail) (by first | (simp [hr, hRB, hm, ht, hz, h0]; done) | (simp [hr, hRB, hm, ht, hz, h0]; rfl)) (by first | (simp; done) | fail) (fun d hd => ?_); subst hd; (try simp [hr, hRB, hm, ht, hz, h0])))
    | (first | (refine CallV.fun_ (hs2) (by rfl) (by first | assumption | (simp; done) | fail) (by first | (simp [hr, hRB, hm, ht, hz, h0]; done) | (simp [hr, hRB, hm, ht, hz, h0]; rfl)) (by first | (simp; done) | fail) ?_ <;> (try simp [hr, hRB, hm, ht, hz, h0])) | (refine CallP.fun_ (hs2) (by rfl) (by first | assumption | (simp; done) | fail) (by first | (simp [hr, hRB, hm, ht, hz, h0]; done) | (simp [hr, hRB, hm, ht, hz, h0]; rfl)) (by first | (simp; done) | fail) (fun d hd => ?_); subst hd; (try simp [hr, hRB, hm, ht, hz, h0])))
    | (first | (refine CallV.fun_ (hin) (by rfl) (by first | assumption | (simp; done) | fail) (by first | (simp [hr, hRB, hm, ht, hz, h0]; done) | (simp [hr, hRB, hm, ht, hz, h0]; rfl)) (by first | (simp; done) | fail) ?_ <;> (try simp [hr, hRB, hm, ht, hz, h0])) | (refine CallP.fun_ (hin) (by rfl) (by first | assumption | (simp; done) | fail) (by first | (simp [hr, hRB, hm, ht, hz, h0]; done) | (simp [hr, hRB, hm, ht, hz, h0]; rfl)) (by first | (simp; done) | fail) (fun d hd => ?_); subst hd; (try simp [hr, hRB, hm, ht, hz, h0])))
    | (refine H_cons ?_; simp [hr, hRB, hm, ht, hz, h0])
    | (refine H_nil ?_)
    | (refine HD_nil ?_)
    | (refine HD_cons ?_; simp [hr, hRB, hm, ht, hz, h0])
    | (refine HD_guardU rfl (by simp [hr, hRB, hm, ht, hz, h0]) ?_; simp [hr, hRB, hm, ht, hz, h0])
    | (refine HD_guard rfl (by simp [hr, hRB, hm, ht, hz, h0]) (fun hc => ?_) (fun hc => ?_) <;> (try simp [hr, hRB, hm, ht, hz, h0] at hc) <;> (try (exfalso; omega)) <;> (try simp [hr, hRB, hm, ht, hz, h0]))
    | (refine V_seq ?_)
    | (refine V_region1 fun k hk => ?_; simp [hr, hRB, hm, ht, hz, h0])
    | (refine V_drawV rfl (by kernel_rfl) (by kernel_rfl) fun k hk => ?_; simp [hr, hRB, hm, ht, hz, h0])
    | (refine V_drawE rfl (by kernel_rfl) (by kernel_rfl) (by simp [hn]) fun C k hC hk => ?_; simp [hr, hRB, hm, ht, hz, h0])
    | (refine HD2_nil (hC _ (by kernel_rfl)) (hk _ ?_); clear hC hk C k)
    | (refine HD2_val rfl ?_; simp [hr, hRB, hm, ht, hz, h0])
    | (refine HD2_chg rfl ?_; simp [hr, hRB, hm, ht, hz, h0])
    | (refine HD2_guardU rfl (by simp [hr, hRB, hm, ht, hz, h0]) ?_; simp [hr, hRB, hm, ht, hz, h0])
    | (refine HD2_guard rfl (by simp [hr, hRB, hm, ht, hz, h0]) (fun hc => ?_) (fun hc => ?_) <;> (try simp [hr, hRB, hm, ht, hz, h0] at hc) <;> (try (exfalso; omega)) <;> (try simp [hr, hRB, hm, ht, hz, h0]))
    | (refine V_block ?_)
        | (refine V_ret ?_)
    | (refine V_exit ?_)
    | (refine V_skip ?_)
    | (refine R_seq ?_)
    | (refine R_seq_ret ?_)
    | (refine R_seq_exit ?_)
    | (refine R_blk_ret ?_)
    | (refine R_blk ?_)
    | (refine R_blk_exit ?_)
    | (refine R_blk_other (by decide) ?_)
    | (refine R_loop_ret ?_)
    | (refine R_loop_exit ?_)
    | (refine R_loop ?_)
    | (refine R_done ?_)
    | (refine hk _ ?_; clear hk k)
    | (refine ⟨by omega, ?_⟩)
    | (refine ⟨?_, by omega⟩)
    | (refine ⟨fun hc => ?_, fun hc => ?_⟩ <;> (try (exfalso; omega)))
    | (refine V_cond rfl (fun hc => ?_) (fun hc => ?_) <;> (try simp [hr, hRB, hm, ht, hz, h0] at hc) <;> (try (exfalso; omega)))
    | (intro hc <;> (try (exfalso; omega))))
    all_goals
      (refine EndOK.val (.inr rfl) ?_; simp [resD, oneOrTup, pureD, Try.results36])
end Go.Proofs.Ytblmompdcammeaa
