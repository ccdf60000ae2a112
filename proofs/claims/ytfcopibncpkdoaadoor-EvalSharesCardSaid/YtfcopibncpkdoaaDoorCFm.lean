/- Layer 17: EvalShares, walked. -/
import Derived.Test.YtfcopibncpkdoaaDoorCFl
set_option linter.all false
set_option maxRecDepth 100000
set_option maxHeartbeats 8000000
set_option linter.all false
namespace Go.Proofs.YtfcopibncpkdoaaDoor
open Go Go.VL
attribute [local simp] HS hcons hstep evPure opd uOf putOK St.put St.at getK binD binI binS binB nilD aggD eqUs cmpK lookD lookR rangeD nextD entryD keyD valU keyU lookK mkV entD_nil lookK_entD updK_entD1 updK_entD2 updK_entD3 allUE allUE_entD makeMapD mapUpdD mapEff updK valM Key.kk shiftI arith unD convD pickD loadD cellsAt fieldAddrD fieldD indexAddrD indexD sliceD cutD lenD minmaxD nilCheckD buildD fillD cellsD isOne ones setAll mkAgg allU allocD boxD storeD St.add buildSliceD appendD rowsOf makeD setOb getK_setOb getK_del getK_cons stripL strip guardTmp entry chunks zcells valD argsV argsW argW argU1 argU0 argsU0 argsU1 calleeOf scalarD scalarU delAll effD St.effS RK_seq RK_seq_ret RK_seq_exit RK_blk RK_blk_ret RK_blk_exit RK_loop RK_loop_ret RK_loop_exit RK_done vs_seq vs_block vs_skip vs_label vs_exit vs_ret vs_cond vs_region vs_loop vs_draw vs_range vs_scope applyW mkD rdIds lentIds callOf calleeOf freeOp D.ids Op.operands Call.operands isEffOp makeIfD typeAssertD conc concs conc1 uOfV panicD IntKind.bits allU2 allU2_append List.take_of_length_le List.range_succ
attribute [local irreducible] V G H HD HD2 HD4 HD4h RetX RunK Eff CallP CallV EndOK Fun Ret FinOK LoopI LoopW EndW
theorem nat_mul_le {a b A B : Nat} (h1 : a ≤ A) (h2 : b ≤ B) : a * b ≤ A * B := Nat.mul_le_mul h1 h2
theorem shares_fun (n s : Int) : Fun Tryd.prog 6 [.u (.int .i64 n), .u (.int .i64 s)] (· = .u (.bool true)) := by
  have h0 := small_fun
  by_cases c1 : 1073741824 < n
  · (refine Fun.of_bodyW Tryd.func6 rfl (by simp) fun Γ hn => ?_); simp only [entry, List.zipIdx_cons, List.zipIdx_nil, List.map_cons, List.map_nil, Nat.zero_add, Tryd.ntmps6]
    repeat' (first
    | (refine H_cons ?_; simp [c1])
    | (refine H_nil ?_; simp [c1])
    | (refine V_sseq ?_; simp [c1])
    | (refine V_scond ?_; simp [c1])
    | (refine V_ret ?_; simp only [RunK])
    | (refine CallP.fun_ (h0) (by first | rfl | fail) (by first | assumption | (simp; done) | fail) (by first | (simp [c1]; done) | (simp [c1]; rfl) | fail) (by first | (simp; done) | fail) (fun d hd => ?_); subst hd; (try simp [c1]))
    | fail)
    refine EndW.here ?_
    (refine EndOK.val (.inr rfl) ?_; simp [resD, oneOrTup, pureD, Tryd.results6])
  by_cases c2 : n < -1073741824
  · (refine Fun.of_bodyW Tryd.func6 rfl (by simp) fun Γ hn => ?_); simp only [entry, List.zipIdx_cons, List.zipIdx_nil, List.map_cons, List.map_nil, Nat.zero_add, Tryd.ntmps6]
    repeat' (first
    | (refine H_cons ?_; simp [c1, c2])
    | (refine H_nil ?_; simp [c1, c2])
    | (refine V_sseq ?_; simp [c1, c2])
    | (refine V_scond ?_; simp [c1, c2])
    | (refine V_ret ?_; simp only [RunK])
    | (refine CallP.fun_ (h0) (by first | rfl | fail) (by first | assumption | (simp; done) | fail) (by first | (simp [c1, c2]; done) | (simp [c1, c2]; rfl) | fail) (by first | (simp; done) | fail) (fun d hd => ?_); subst hd; (try simp [c1, c2]))
    | fail)
    refine EndW.here ?_
    (refine EndOK.val (.inr rfl) ?_; simp [resD, oneOrTup, pureD, Tryd.results6])
  by_cases c3 : s < 0
  · (refine Fun.of_bodyW Tryd.func6 rfl (by simp) fun Γ hn => ?_); simp only [entry, List.zipIdx_cons, List.zipIdx_nil, List.map_cons, List.map_nil, Nat.zero_add, Tryd.ntmps6]
    repeat' (first
    | (refine H_cons ?_; simp [c1, c2, c3])
    | (refine H_nil ?_; simp [c1, c2, c3])
    | (refine V_sseq ?_; simp [c1, c2, c3])
    | (refine V_scond ?_; simp [c1, c2, c3])
    | (refine V_ret ?_; simp only [RunK])
    | (refine CallP.fun_ (h0) (by first | rfl | fail) (by first | assumption | (simp; done) | fail) (by first | (simp [c1, c2, c3]; done) | (simp [c1, c2, c3]; rfl) | fail) (by first | (simp; done) | fail) (fun d hd => ?_); subst hd; (try simp [c1, c2, c3]))
    | fail)
    refine EndW.here ?_
    (refine EndOK.val (.inr rfl) ?_; simp [resD, oneOrTup, pureD, Tryd.results6])
  by_cases c4 : 1000 < s
  · (refine Fun.of_bodyW Tryd.func6 rfl (by simp) fun Γ hn => ?_); simp only [entry, List.zipIdx_cons, List.zipIdx_nil, List.map_cons, List.map_nil, Nat.zero_add, Tryd.ntmps6]
    repeat' (first
    | (refine H_cons ?_; simp [c1, c2, c3, c4])
    | (refine H_nil ?_; simp [c1, c2, c3, c4])
    | (refine V_sseq ?_; simp [c1, c2, c3, c4])
    | (refine V_scond ?_; simp [c1, c2, c3, c4])
    | (refine V_ret ?_; simp only [RunK])
    | (refine CallP.fun_ (h0) (by first | rfl | fail) (by first | assumption | (simp; done) | fail) (by first | (simp [c1, c2, c3, c4]; done) | (simp [c1, c2, c3, c4]; rfl) | fail) (by first | (simp; done) | fail) (fun d hd => ?_); subst hd; (try simp [c1, c2, c3, c4]))
    | fail)
    refine EndW.here ?_
    (refine EndOK.val (.inr rfl) ?_; simp [resD, oneOrTup, pureD, Tryd.results6])
  have hx := litnum_fun n 3 (by omega)
  have hk := fun k (h : -1000000000000 ≤ k) => litnum_fun k 4 h
  have sc : ∀ k : Int, 0 ≤ k → k ≤ 1000 → valueP [] [] (.mk 4 0 0 [] [numE n 3, numE k 4]) = (n * k / 1000, 0) := fun k hk0 hk1 => by
    refine value_scaled (by decide) (by decide) ⟨by omega, by omega⟩ ⟨by omega, by omega⟩ ?_ ?_
    · rw [share_num hk0 (by omega), Bool.or_true]
    · rw [Int.natAbs_mul]
      have := nat_mul_le (show n.natAbs ≤ 1073741824 by omega) (show k.natAbs ≤ 1000 by omega)
      omega
  have q1 := value_at (sc 1000 (by omega) (by omega))
  have q3 := value_at (sc s (by omega) (by omega))
  have q4 := value_at (sc (1000 - s) (by omega) (by omega))
  have q5 := value_at (sc (min (s + 1) 1000) (by omega) (by omega))
  have q2 := value_at (value_scaled (a := 0) (b := n) (u1 := 4) (u2 := 3) (by decide) (by decide) ⟨by omega, by omega⟩ ⟨by omega, by omega⟩ (by rw [share_num (by omega) (by omega), Bool.true_or]) (by simp))
  have q6 := value_at (value_scaled (a := s) (b := s) (u1 := 4) (u2 := 4) (by decide) (by decide) ⟨by omega, by omega⟩ ⟨by omega, by omega⟩ (by rw [share_num (by omega) (by omega), Bool.true_or]) (by
    rw [Int.natAbs_mul]
    have := nat_mul_le (show s.natAbs ≤ 1000 by omega) (show s.natAbs ≤ 1000 by omega)
    omega))
  have w1 := hk 1000 (by omega)
  have w2 := hk 0 (by omega)
  have w3 := hk s (by omega)
  have w4 := hk (1000 - s) (by omega)
  have w5 := hk (min (s + 1) 1000) (by omega)
  clear hk sc
  have hss : 0 ≤ s * s ∧ s * s ≤ 1000000 := by
    have h1 : 0 ≤ s * s := Int.mul_nonneg (by omega) (by omega)
    have := nat_mul_le (show s.natAbs ≤ 1000 by omega) (show s.natAbs ≤ 1000 by omega)
    rw [← Int.natAbs_mul] at this
    omega
  have hns : -1073741824000 ≤ n * s ∧ n * s ≤ 1073741824000 := by
    have := nat_mul_le (show n.natAbs ≤ 1073741824 by omega) (show s.natAbs ≤ 1000 by omega)
    rw [← Int.natAbs_mul] at this
    omega
  have e1 : n * 1000 / 1000 = n := by omega
  have e4 : n * (1000 - s) = 1000 * n - n * s := by rw [Int.mul_sub]; omega
  have e5 : 0 ≤ n → n * s ≤ n * min (s + 1) 1000 := fun h => Int.mul_le_mul_of_nonneg_left (by omega) h
  have e5b : -1073741824000 ≤ n * min (s + 1) 1000 ∧ n * min (s + 1) 1000 ≤ 1073741824000 := by
    have := nat_mul_le (show n.natAbs ≤ 1073741824 by omega) (show (min (s + 1) 1000).natAbs ≤ 1000 by omega)
    rw [← Int.natAbs_mul] at this
    omega
  have e6 : (s * s).tdiv 1000 = s * s / 1000 := by rw [Int.tdiv_eq_ediv_of_nonneg hss.1]
  rw [e1] at q1
  rw [e4] at q4
  have e2 : (0 * n / 1000 : Int) = 0 := by simp
  rw [e2] at q2
  generalize hX : numE n 3 = X at *
  generalize hY1 : numE 1000 4 = Y1 at *
  generalize hY2 : numE 0 4 = Y2 at *
  generalize hY3 : numE s 4 = Y3 at *
  generalize hY4 : numE (1000 - s) 4 = Y4 at *
  generalize hY5 : numE (min (s + 1) 1000) 4 = Y5 at *
  generalize hp : n * s = p at *
  generalize hp5 : n * min (s + 1) 1000 = p5 at *
  generalize hp6 : s * s = p6 at *
  have e7 : p / 1000 + (1000 * n - p) / 1000 = n ∨ p / 1000 + (1000 * n - p) / 1000 = n - 1 := by omega
  have e8 : n < 0 ∨ p / 1000 ≤ p5 / 1000 := by
    by_cases h : n < 0
    · exact .inl h
    · right
      have := e5 (by omega)
      omega
  have b3 : -1073741824 ≤ p / 1000 ∧ p / 1000 ≤ 1073741824 := by omega
  have b4 : -2147483649 ≤ (1000 * n - p) / 1000 ∧ (1000 * n - p) / 1000 ≤ 2147483649 := by omega
  have b6 : 0 ≤ p6 / 1000 ∧ p6 / 1000 ≤ 1000 := by omega
  generalize p / 1000 = v3 at *
  generalize (1000 * n - p) / 1000 = v4 at *
  generalize p5 / 1000 = v5 at *
  generalize p6 / 1000 = v6 at *
  simp only [letsU, varsU, eagg, Exp.op, Exp.n, Exp.unit, Exp.s, Exp.args, List.map_cons, List.map_nil, Exp.row_eq] at hx w1 w2 w3 w4 w5 q1 q2 q3 q4 q5 q6
  clear hX hY1 hY2 hY3 hY4 hY5 hp hp5 e1 e2 e4 e5
  rcases e7 with e7 | e7
  all_goals
    (refine Fun.of_bodyW Tryd.func6 rfl (by simp) fun Γ hn => ?_); simp only [entry, List.zipIdx_cons, List.zipIdx_nil, List.map_cons, List.map_nil, Nat.zero_add, Tryd.ntmps6]
    repeat' (first
    | (refine H_cons ?_; simp [c1, c2, c3, c4, e7, e6, hp6, Exp.row_eq])
    | (refine HD4_val rfl ?_; simp [c1, c2, c3, c4, e7, e6, hp6, Exp.row_eq])
    | (refine HD4_chg rfl ?_; simp [c1, c2, c3, c4, e7, e6, hp6, Exp.row_eq])
    | (refine H_nil ?_; simp [c1, c2, c3, c4, e7, e6, hp6, Exp.row_eq])
    | (refine ⟨by omega, ?_⟩)
    | (refine V_sseq ?_; simp [c1, c2, c3, c4, e7, e6, hp6, Exp.row_eq])
    | (refine V_scond ?_; simp [c1, c2, c3, c4, e7, e6, hp6, Exp.row_eq])
    | (refine HD4_nil (hC _ (by kernel_rfl)) (hk _ ?_); clear hC hk C k; simp only [RunK])
    | (refine V_drawX rfl (by kernel_rfl) (by first | (simp [hn]; done) | (simp [hn]; omega) | fail) fun C k hC hk => ?_; simp [c1, c2, c3, c4, e7, e6, hp6, Exp.row_eq])
    | (refine V_ret ?_; simp only [RunK])
    | (refine V_skip ?_; simp only [RunK])
    | (refine ⟨?_, by omega⟩)
    | (refine ⟨fun hc => ?_, fun hc => ?_⟩ <;> (try (exfalso; omega)))
    | (intro hc <;> (try (exfalso; omega)))
    | (refine CallP.fun_ (h0) (by first | rfl | fail) (by first | assumption | (simp; done) | fail) (by first | (simp [c1, c2, c3, c4, e7, e6, hp6, Exp.row_eq]; done) | (simp [c1, c2, c3, c4, e7, e6, hp6, Exp.row_eq]; rfl) | fail) (by first | (simp; done) | fail) (fun d hd => ?_); subst hd; (try simp [c1, c2, c3, c4, e7, e6, hp6, Exp.row_eq]))
    | (refine CallP.fun_ (hx) (by first | rfl | fail) (by first | assumption | (simp; done) | fail) (by first | (simp [c1, c2, c3, c4, e7, e6, hp6, Exp.row_eq]; done) | (simp [c1, c2, c3, c4, e7, e6, hp6, Exp.row_eq]; rfl) | fail) (by first | (simp; done) | fail) (fun d hd => ?_); subst hd; (try simp [c1, c2, c3, c4, e7, e6, hp6, Exp.row_eq]))
    | (refine CallV.fun_ (w1) (by first | rfl | fail) (by first | assumption | (simp; done) | fail) (by first | (simp [c1, c2, c3, c4, e7, e6, hp6, Exp.row_eq]; done) | (simp [c1, c2, c3, c4, e7, e6, hp6, Exp.row_eq]; rfl) | fail) (by first | (simp; done) | fail) ?_ <;> (try simp [c1, c2, c3, c4, e7, e6, hp6, Exp.row_eq]))
    | (refine CallV.fun_ (w2) (by first | rfl | fail) (by first | assumption | (simp; done) | fail) (by first | (simp [c1, c2, c3, c4, e7, e6, hp6, Exp.row_eq]; done) | (simp [c1, c2, c3, c4, e7, e6, hp6, Exp.row_eq]; rfl) | fail) (by first | (simp; done) | fail) ?_ <;> (try simp [c1, c2, c3, c4, e7, e6, hp6, Exp.row_eq]))
    | (refine CallV.fun_ (w3) (by first | rfl | fail) (by first | assumption | (simp; done) | fail) (by first | (simp [c1, c2, c3, c4, e7, e6, hp6, Exp.row_eq]; done) | (simp [c1, c2, c3, c4, e7, e6, hp6, Exp.row_eq]; rfl) | fail) (by first | (simp; done) | fail) ?_ <;> (try simp [c1, c2, c3, c4, e7, e6, hp6, Exp.row_eq]))
    | (refine CallP.fun_ (w3) (by first | rfl | fail) (by first | assumption | (simp; done) | fail) (by first | (simp [c1, c2, c3, c4, e7, e6, hp6, Exp.row_eq]; done) | (simp [c1, c2, c3, c4, e7, e6, hp6, Exp.row_eq]; rfl) | fail) (by first | (simp; done) | fail) (fun d hd => ?_); subst hd; (try simp [c1, c2, c3, c4, e7, e6, hp6, Exp.row_eq]))
    | (refine CallV.fun_ (w4) (by first | rfl | fail) (by first | assumption | (simp; done) | fail) (by first | (simp [c1, c2, c3, c4, e7, e6, hp6, Exp.row_eq]; done) | (simp [c1, c2, c3, c4, e7, e6, hp6, Exp.row_eq]; rfl) | fail) (by first | (simp; done) | fail) ?_ <;> (try simp [c1, c2, c3, c4, e7, e6, hp6, Exp.row_eq]))
    | (refine CallV.fun_ (w5) (by first | rfl | fail) (by first | assumption | (simp; done) | fail) (by first | (simp [c1, c2, c3, c4, e7, e6, hp6, Exp.row_eq]; done) | (simp [c1, c2, c3, c4, e7, e6, hp6, Exp.row_eq]; rfl) | fail) (by first | (simp; done) | fail) ?_ <;> (try simp [c1, c2, c3, c4, e7, e6, hp6, Exp.row_eq]))
    | (refine CallV.fun_ (q1) (by first | rfl | fail) (by first | assumption | (simp; done) | fail) (by first | (simp [c1, c2, c3, c4, e7, e6, hp6, Exp.row_eq]; done) | (simp [c1, c2, c3, c4, e7, e6, hp6, Exp.row_eq]; rfl) | fail) (by first | (simp; done) | fail) ?_ <;> (try simp [c1, c2, c3, c4, e7, e6, hp6, Exp.row_eq]))
    | (refine CallV.fun_ (q2) (by first | rfl | fail) (by first | assumption | (simp; done) | fail) (by first | (simp [c1, c2, c3, c4, e7, e6, hp6, Exp.row_eq]; done) | (simp [c1, c2, c3, c4, e7, e6, hp6, Exp.row_eq]; rfl) | fail) (by first | (simp; done) | fail) ?_ <;> (try simp [c1, c2, c3, c4, e7, e6, hp6, Exp.row_eq]))
    | (refine CallV.fun_ (q3) (by first | rfl | fail) (by first | assumption | (simp; done) | fail) (by first | (simp [c1, c2, c3, c4, e7, e6, hp6, Exp.row_eq]; done) | (simp [c1, c2, c3, c4, e7, e6, hp6, Exp.row_eq]; rfl) | fail) (by first | (simp; done) | fail) ?_ <;> (try simp [c1, c2, c3, c4, e7, e6, hp6, Exp.row_eq]))
    | (refine CallV.fun_ (q4) (by first | rfl | fail) (by first | assumption | (simp; done) | fail) (by first | (simp [c1, c2, c3, c4, e7, e6, hp6, Exp.row_eq]; done) | (simp [c1, c2, c3, c4, e7, e6, hp6, Exp.row_eq]; rfl) | fail) (by first | (simp; done) | fail) ?_ <;> (try simp [c1, c2, c3, c4, e7, e6, hp6, Exp.row_eq]))
    | (refine CallV.fun_ (q5) (by first | rfl | fail) (by first | assumption | (simp; done) | fail) (by first | (simp [c1, c2, c3, c4, e7, e6, hp6, Exp.row_eq]; done) | (simp [c1, c2, c3, c4, e7, e6, hp6, Exp.row_eq]; rfl) | fail) (by first | (simp; done) | fail) ?_ <;> (try simp [c1, c2, c3, c4, e7, e6, hp6, Exp.row_eq]))
    | (refine CallP.fun_ (q6) (by first | rfl | fail) (by first | assumption | (simp; done) | fail) (by first | (simp [c1, c2, c3, c4, e7, e6, hp6, Exp.row_eq]; done) | (simp [c1, c2, c3, c4, e7, e6, hp6, Exp.row_eq]; rfl) | fail) (by first | (simp; done) | fail) (fun d hd => ?_); subst hd; (try simp [c1, c2, c3, c4, e7, e6, hp6, Exp.row_eq]))
    | fail)
    all_goals refine EndW.here ?_
    all_goals
      (refine EndOK.val (.inr rfl) ?_; simp [resD, oneOrTup, pureD, Tryd.results6])
end Go.Proofs.YtfcopibncpkdoaaDoor
