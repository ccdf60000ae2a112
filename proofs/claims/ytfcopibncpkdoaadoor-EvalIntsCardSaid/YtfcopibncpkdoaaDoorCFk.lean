/- Layer 17: EvalInts, walked. -/
import Derived.Test.YtfcopibncpkdoaaDoorK6
set_option linter.all false
set_option maxRecDepth 100000
set_option maxHeartbeats 8000000
set_option linter.all false
namespace Go.Proofs.YtfcopibncpkdoaaDoor
open Go Go.VL
attribute [local simp] HS hcons hstep evPure opd uOf putOK St.put St.at getK binD binI binS binB nilD aggD eqUs cmpK lookD lookR rangeD nextD entryD keyD valU keyU lookK mkV entD_nil lookK_entD updK_entD1 updK_entD2 updK_entD3 allUE allUE_entD makeMapD mapUpdD mapEff updK valM Key.kk shiftI arith unD convD pickD loadD cellsAt fieldAddrD fieldD indexAddrD indexD sliceD cutD lenD minmaxD nilCheckD buildD fillD cellsD isOne ones setAll mkAgg allU allocD boxD storeD St.add buildSliceD appendD rowsOf makeD setOb getK_setOb getK_del getK_cons stripL strip guardTmp entry chunks zcells valD argsV argsW argW argU1 argU0 argsU0 argsU1 calleeOf scalarD scalarU delAll effD St.effS RK_seq RK_seq_ret RK_seq_exit RK_blk RK_blk_ret RK_blk_exit RK_loop RK_loop_ret RK_loop_exit RK_done vs_seq vs_block vs_skip vs_label vs_exit vs_ret vs_cond vs_region vs_loop vs_draw vs_range vs_scope applyW mkD rdIds lentIds callOf calleeOf freeOp D.ids Op.operands Call.operands isEffOp makeIfD typeAssertD conc concs conc1 uOfV panicD IntKind.bits allU2 allU2_append List.take_of_length_le List.range_succ
attribute [local irreducible] V G H HD HD2 HD4 HD4h RetX RunK Eff CallP CallV EndOK Fun Ret FinOK LoopI LoopW EndW
theorem ints_fun (a b : Int) : Fun Tryd.prog 5 [.u (.int .i64 a), .u (.int .i64 b)] (· = .u (.bool true)) := by
  have h0 := small_fun
  by_cases hr : -1099511627776 ≤ a ∧ a ≤ 1099511627776 ∧ -1099511627776 ≤ b ∧ b ≤ 1099511627776
  case neg =>
    by_cases c1 : 1099511627776 < a
    · (refine Fun.of_bodyW Tryd.func5 rfl (by simp) fun Γ hn => ?_); simp only [entry, List.zipIdx_cons, List.zipIdx_nil, List.map_cons, List.map_nil, Nat.zero_add, Tryd.ntmps5]
      repeat' (first
    | (refine H_cons ?_; simp [c1])
    | (refine H_nil ?_; simp [c1])
    | (refine V_sseq ?_; simp [c1])
    | (refine V_scond ?_; simp [c1])
    | (refine V_ret ?_; simp only [RunK])
    | (refine CallP.fun_ (h0) (by first | rfl | fail) (by first | assumption | (simp; done) | fail) (by first | (simp [c1]; done) | (simp [c1]; rfl) | fail) (by first | (simp; done) | fail) (fun d hd => ?_); subst hd; (try simp [c1]))
    | fail)
      refine EndW.here ?_
      (refine EndOK.val (.inr rfl) ?_; simp [resD, oneOrTup, pureD, Tryd.results5])
    by_cases c2 : a < -1099511627776
    · (refine Fun.of_bodyW Tryd.func5 rfl (by simp) fun Γ hn => ?_); simp only [entry, List.zipIdx_cons, List.zipIdx_nil, List.map_cons, List.map_nil, Nat.zero_add, Tryd.ntmps5]
      repeat' (first
    | (refine H_cons ?_; simp [c1, c2])
    | (refine H_nil ?_; simp [c1, c2])
    | (refine V_sseq ?_; simp [c1, c2])
    | (refine V_scond ?_; simp [c1, c2])
    | (refine V_ret ?_; simp only [RunK])
    | (refine CallP.fun_ (h0) (by first | rfl | fail) (by first | assumption | (simp; done) | fail) (by first | (simp [c1, c2]; done) | (simp [c1, c2]; rfl) | fail) (by first | (simp; done) | fail) (fun d hd => ?_); subst hd; (try simp [c1, c2]))
    | fail)
      refine EndW.here ?_
      (refine EndOK.val (.inr rfl) ?_; simp [resD, oneOrTup, pureD, Tryd.results5])
    by_cases c3 : 1099511627776 < b
    · (refine Fun.of_bodyW Tryd.func5 rfl (by simp) fun Γ hn => ?_); simp only [entry, List.zipIdx_cons, List.zipIdx_nil, List.map_cons, List.map_nil, Nat.zero_add, Tryd.ntmps5]
      repeat' (first
    | (refine H_cons ?_; simp [c1, c2, c3])
    | (refine H_nil ?_; simp [c1, c2, c3])
    | (refine V_sseq ?_; simp [c1, c2, c3])
    | (refine V_scond ?_; simp [c1, c2, c3])
    | (refine V_ret ?_; simp only [RunK])
    | (refine CallP.fun_ (h0) (by first | rfl | fail) (by first | assumption | (simp; done) | fail) (by first | (simp [c1, c2, c3]; done) | (simp [c1, c2, c3]; rfl) | fail) (by first | (simp; done) | fail) (fun d hd => ?_); subst hd; (try simp [c1, c2, c3]))
    | fail)
      refine EndW.here ?_
      (refine EndOK.val (.inr rfl) ?_; simp [resD, oneOrTup, pureD, Tryd.results5])
    have c4 : b < -1099511627776 := by omega
    (refine Fun.of_bodyW Tryd.func5 rfl (by simp) fun Γ hn => ?_); simp only [entry, List.zipIdx_cons, List.zipIdx_nil, List.map_cons, List.map_nil, Nat.zero_add, Tryd.ntmps5]
    repeat' (first
    | (refine H_cons ?_; simp [c1, c2, c3, c4])
    | (refine H_nil ?_; simp [c1, c2, c3, c4])
    | (refine V_sseq ?_; simp [c1, c2, c3, c4])
    | (refine V_scond ?_; simp [c1, c2, c3, c4])
    | (refine V_ret ?_; simp only [RunK])
    | (refine CallP.fun_ (h0) (by first | rfl | fail) (by first | assumption | (simp; done) | fail) (by first | (simp [c1, c2, c3, c4]; done) | (simp [c1, c2, c3, c4]; rfl) | fail) (by first | (simp; done) | fail) (fun d hd => ?_); subst hd; (try simp [c1, c2, c3, c4]))
    | fail)
    refine EndW.here ?_
    (refine EndOK.val (.inr rfl) ?_; simp [resD, oneOrTup, pureD, Tryd.results5])
  obtain ⟨r1, r2, r3, r4⟩ := hr
  have ha : inC a := ⟨r1, r2⟩
  have hb : inC b := ⟨r3, r4⟩
  have c1 : ¬ 1099511627776 < a := by omega
  have c2 : ¬ a < -1099511627776 := by omega
  have c3 : ¬ 1099511627776 < b := by omega
  have c4 : ¬ b < -1099511627776 := by omega
  have v2 := value_at (value_ab (op := 2) (by decide) ha hb)
  have v3 := value_at (value_ab (op := 3) (by decide) ha hb)
  have v5 := value_at (value_ab (op := 5) (by decide) ha hb)
  have v6 := value_at (value_ab (op := 6) (by decide) ha hb)
  have v7 := value_at (value_ab (op := 7) (by decide) ha hb)
  have v8 := value_at (value_ab (op := 8) (by decide) ha hb)
  have v9 := value_at (value_ab (op := 9) (by decide) ha hb)
  have b2 : binX 2 false a b = keptX (a + b) := rfl
  have b3 : binX 3 false a b = keptX (a - b) := rfl
  have b6 : binX 6 false a b = .ok (min a b) := rfl
  have b7 : binX 7 false a b = .ok (max a b) := rfl
  have b8 : binX 8 false a b = .ok (truthX (decide (a < b))) := rfl
  have b9 : binX 9 false a b = .ok (truthX (decide (a = b))) := rfl
  rw [b2] at v2
  rw [b3] at v3
  rw [b6] at v6
  rw [b7] at v7
  rw [b8] at v8
  rw [b9] at v9
  simp only [letsU, varsU, abV, eagg, Exp.op, Exp.n, Exp.unit, Exp.s, Exp.args, eA, eB, List.map_cons, List.map_nil, Exp.row, entX] at v2 v3 v5 v6 v7 v8 v9
  have o1 := truthX_one
  have o2 := truthX_sq
  have o3 : 0 ≤ truthX (decide (a < b)) ∧ truthX (decide (a < b)) ≤ 1 := by unfold truthX; split <;> omega
  have o4 : 0 ≤ truthX (decide (a = b)) ∧ truthX (decide (a = b)) ≤ 1 := by unfold truthX; split <;> omega
  have hfp := fun h : 0 < b => floorX_pos (a := a) h
  have hfn := fun h : b < 0 => floorX_neg (a := a) h
  have hfi := fun h : b ≠ 0 => floorX_in ha hb h
  have k1 : (1099511627776 < a + b ∧ keptX (a + b) = .error 3) ∨ (a + b < -1099511627776 ∧ keptX (a + b) = .error 3) ∨ ((a + b ≤ 1099511627776 ∧ -1099511627776 ≤ a + b) ∧ keptX (a + b) = .ok (a + b)) := by
    unfold keptX
    by_cases h1 : 1099511627776 < a + b
    · exact .inl ⟨h1, if_pos (.inl h1)⟩
    by_cases h2 : a + b < -1099511627776
    · exact .inr (.inl ⟨h2, if_pos (.inr h2)⟩)
    exact .inr (.inr ⟨by omega, if_neg (by omega)⟩)
  have k2 : (1099511627776 < a - b ∧ keptX (a - b) = .error 3) ∨ (a - b < -1099511627776 ∧ keptX (a - b) = .error 3) ∨ ((a - b ≤ 1099511627776 ∧ -1099511627776 ≤ a - b) ∧ keptX (a - b) = .ok (a - b)) := by
    unfold keptX
    by_cases h1 : 1099511627776 < a - b
    · exact .inl ⟨h1, if_pos (.inl h1)⟩
    by_cases h2 : a - b < -1099511627776
    · exact .inr (.inl ⟨h2, if_pos (.inr h2)⟩)
    exact .inr (.inr ⟨by omega, if_neg (by omega)⟩)
  have k5 : (b = 0 ∧ binX 5 false a b = .error 15) ∨ ((0 < b ∨ b < 0) ∧ binX 5 false a b = .ok (floorX a b)) := by
    by_cases h : b = 0
    · exact .inl ⟨h, by rw [h]; rfl⟩
    · exact .inr ⟨by omega, by rw [← hfi h]; simp [binX, h]⟩
  have hq : (b ≠ 0 → -1099511627776 ≤ floorX a b ∧ floorX a b ≤ 1099511627776) := fun h => by
    have := keptX_in (hfi h)
    exact this.1
  have hq2 : (0 < b → floorX a b * b ≤ a ∧ a - b < floorX a b * b) := hfp
  have hq3 : (b < 0 → a ≤ floorX a b * b ∧ floorX a b * b < a - b) := hfn
  clear hfp hfn hfi
  generalize floorX a b = q at *
  generalize hp : q * b = p at *
  (refine Fun.of_bodyW Tryd.func5 rfl (by simp) fun Γ hn => ?_); simp only [entry, List.zipIdx_cons, List.zipIdx_nil, List.map_cons, List.map_nil, Nat.zero_add, Tryd.ntmps5]
  repeat' (first
    | (refine H_cons ?_; simp [c1, c2, c3, c4])
    | (refine H_nil ?_; simp [c1, c2, c3, c4])
    | (refine V_sseq ?_; simp [c1, c2, c3, c4])
    | (refine V_scond ?_; simp [c1, c2, c3, c4])
    | (refine V_skip ?_; simp only [RunK])
    | (refine CallP.fun_ (h0) (by first | rfl | fail) (by first | assumption | (simp; done) | fail) (by first | (simp [c1, c2, c3, c4]; done) | (simp [c1, c2, c3, c4]; rfl) | fail) (by first | (simp; done) | fail) (fun d hd => ?_); subst hd; (try simp [c1, c2, c3, c4]))
    | fail)
  refine CallP_wk (Wk.normV _) ?_
  simp [St.normV, normVOb, normD, normU, norm1]
  rcases k1 with ⟨d1, k1⟩ | ⟨d1, k1⟩ | ⟨⟨d1, d1b⟩, k1⟩ <;> rcases k2 with ⟨d2, k2⟩ | ⟨d2, k2⟩ | ⟨⟨d2, d2b⟩, k2⟩ <;> rcases k5 with ⟨d5, k5⟩ | ⟨d5 | d5, k5⟩ <;> (try (exfalso; omega))
  all_goals
    rw [k1] at v2
    rw [k2] at v3
    rw [k5] at v5
    simp only [entX] at v2 v3 v5
    clear k1 k2 k5 b2 b3 b6 b7 b8 b9
    repeat' (first
    | (refine H_cons ?_; simp [o1, o2, hp])
    | (refine H_nil ?_; simp [o1, o2, hp])
    | (refine ⟨by omega, ?_⟩)
    | (refine V_sseq ?_; simp [o1, o2, hp])
    | (refine V_scond ?_; simp [o1, o2, hp])
    | (refine V_ret ?_; simp only [RunK])
    | (refine V_skip ?_; simp only [RunK])
    | (refine ⟨?_, by omega⟩)
    | (intro hc <;> (try (exfalso; omega)))
    | (refine CallP.fun_ (v2) (by first | rfl | fail) (by first | assumption | (simp; done) | fail) (by first | (simp [o1, o2, hp]; done) | (simp [o1, o2, hp]; rfl) | fail) (by first | (simp; done) | fail) (fun d hd => ?_); subst hd; (try simp [o1, o2, hp]))
    | (refine CallP.fun_ (v3) (by first | rfl | fail) (by first | assumption | (simp; done) | fail) (by first | (simp [o1, o2, hp]; done) | (simp [o1, o2, hp]; rfl) | fail) (by first | (simp; done) | fail) (fun d hd => ?_); subst hd; (try simp [o1, o2, hp]))
    | (refine CallP.fun_ (v5) (by first | rfl | fail) (by first | assumption | (simp; done) | fail) (by first | (simp [o1, o2, hp]; done) | (simp [o1, o2, hp]; rfl) | fail) (by first | (simp; done) | fail) (fun d hd => ?_); subst hd; (try simp [o1, o2, hp]))
    | (refine CallP.fun_ (v6) (by first | rfl | fail) (by first | assumption | (simp; done) | fail) (by first | (simp [o1, o2, hp]; done) | (simp [o1, o2, hp]; rfl) | fail) (by first | (simp; done) | fail) (fun d hd => ?_); subst hd; (try simp [o1, o2, hp]))
    | (refine CallP.fun_ (v7) (by first | rfl | fail) (by first | assumption | (simp; done) | fail) (by first | (simp [o1, o2, hp]; done) | (simp [o1, o2, hp]; rfl) | fail) (by first | (simp; done) | fail) (fun d hd => ?_); subst hd; (try simp [o1, o2, hp]))
    | (refine CallP.fun_ (v8) (by first | rfl | fail) (by first | assumption | (simp; done) | fail) (by first | (simp [o1, o2, hp]; done) | (simp [o1, o2, hp]; rfl) | fail) (by first | (simp; done) | fail) (fun d hd => ?_); subst hd; (try simp [o1, o2, hp]))
    | (refine CallP.fun_ (v9) (by first | rfl | fail) (by first | assumption | (simp; done) | fail) (by first | (simp [o1, o2, hp]; done) | (simp [o1, o2, hp]; rfl) | fail) (by first | (simp; done) | fail) (fun d hd => ?_); subst hd; (try simp [o1, o2, hp]))
    | fail)
    all_goals refine EndW.here ?_
    all_goals
      (refine EndOK.val (.inr rfl) ?_; simp [resD, oneOrTup, pureD, Tryd.results5])
    all_goals trace_state
end Go.Proofs.YtfcopibncpkdoaaDoor
