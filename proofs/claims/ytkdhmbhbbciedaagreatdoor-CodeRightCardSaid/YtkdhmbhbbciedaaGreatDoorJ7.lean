/- Texts joined by a program of mine: CA. -/
import Derived.Test.YtkdhmbhbbciedaaGreatDoorJ6
set_option linter.all false
set_option maxRecDepth 100000
set_option maxHeartbeats 8000000
namespace Go.Proofs.YtkdhmbhbbciedaaGreatDoor
open Go Go.VL
attribute [local simp] HS exS_some hcons hstep evPure opd uOf putOK St.put St.at getK binD binI binS binB nilD aggD eqUs cmpK lookD lookR rangeD rangeS Go.VL.nextD Go.VL.nextS entryD keyD valU keyU lookK mkV entD_nil allUE makeMapD mapUpdD mapEff updK valM Key.kk shiftI arith unD convD pickD loadD cellsAt fieldAddrD fieldD indexAddrD indexSlD arrAddr indexD sliceD cutD lenD minmaxD nilCheckD buildD fillD cellsD isOne ones setAll mkAgg allU allocD boxD storeD St.add buildSliceD appendD rowsOf makeD setOb getK_setOb getK_del getK_cons stripL strip guardTmp entry chunks zcells valD argsV argsW argW argU1 argU0 argsU0 argsU1 calleeOf scalarD scalarU delAll effD St.effS RK_seq RK_seq_ret RK_seq_exit RK_blk RK_blk_ret RK_blk_exit RK_loop RK_loop_ret RK_loop_exit RK_done vs_seq vs_block vs_cond vs_region vs_loop applyW mkD rdIds lentIds callOf calleeOf freeOp D.ids Op.operands Call.operands isEffOp makeIfD makeFuncD typeAssertD conc concs conc1 uOfV panicD IntKind.bits allU2 List.take_of_length_le List.range_succ HR_nil HR_cons HR_grd v2_seq v2_block v2_skip v2_exit v2_ret v2_cond v2_region v2_draw v2_loop RN_0 RN_done RN_seq RN_seq_ret RN_seq_exit RN_blk RN_blk_ret RN_blk_exit RN_loop RN_loop_ret RN_loop_exit Cnd_tf Cnd_ft EndV getK_append frzN frz1 frz_env frz_obs St.frz St.frzS frzS fv fzVec fzMap fzBox frzObS frz_entD frz_rowsD frz frzOb normD normU norm1 normOb St.norm St.lp St.only keepE wkE wkO wkU Ob.under D.under under_rowsD under_entD H4_nil H4_cons H4_grd h4s resD oneOrTup pureD List.zipIdx_cons List.zipIdx_nil List.map_cons List.map_nil Nat.zero_add
attribute [local irreducible] V G H HD HD2 HD4 HD4h RetX RunK Eff CallP CallV EndOK Fun Ret FinOK LoopI LoopW EndW HR vs2 RN Cnd H4
theorem crightlaw_fun (lets : List Let) (e : Exp) : Fun Tryz.prog 4 [.u (letsU lets), eagg e] (· = .u (.bool true)) := by
 have h0 := small19_fun
 have h1 := cfew_fun lets e
 by_cases hf : (fewL lets 4 30 && fewE e 30) = true
 case neg =>
  rw [Bool.not_eq_true] at hf
  rw [hf] at h1
  simp only [letsU, eagg] at h1 ⊢
  refine Fun.run Tryz.func4 Tryz.ntmps4 Tryz.results4 rfl (by simp) fun Γ hn => ?_
  repeat' (first
  | (refine V_run rfl ?_; simp)
  | ((first | refine CallP.f2 rfl (h0) (by first | simp <;> rfl | fail) ?_ | refine CallP.f2 rfl (h1) (by first | simp <;> rfl | fail) ?_ | fail); simp)
  | fail)
  (refine Pst.of ?_; simp)
 have hl4 := few_len hf
 rw [hf] at h1
 have h2 := rightExp_fun e
 have h3 := compile_fun lets e
 have hnil := comp_nil (lets := lets) (e := e)
 have herr := comp_err (lets := lets) (e := e)
 have hlaw := fun c (hc : compP lets e = (c, 0)) => comp_law hc
 have hall := rightN_all (e := e) (show lets.length ≤ 20 by omega)
 have hzero : rightN lets e 0 = rightB 12 e := by simp [rightN]
 have hsucc := fun n l (h : lets[n]? = some l) => rightN_succ (e := e) h
 rw [← hzero] at h2
 generalize compP lets e = cp at *
 obtain ⟨code, er⟩ := cp
 generalize rightAll lets e = ra at *
 generalize rightN lets e = rn at *
 simp only at hnil herr h3
 simp only [letsU, eagg, Vm.inss] at h1 h2 h3 ⊢
 clear hf hzero
 refine Fun.run Tryz.func4 Tryz.ntmps4 Tryz.results4 rfl (by simp) fun Γ hn => ?_
 repeat' (first
  | (refine V_run rfl ?_; simp)
  | ((first | refine CallP.f2 rfl (h0) (by first | simp <;> rfl | fail) ?_ | refine CallP.f2 rfl (h1) (by first | simp <;> rfl | fail) ?_ | refine CallP.f2 rfl (h2) (by first | simp <;> rfl | fail) ?_ | fail); simp)
  | fail)
 refine V_loopO (α := { i : Nat // i ≤ lets.length }) [0, 3, 5] (fun i => [(6, .u (.bool (rn i.1))), (7, .u (.int .i64 i.1))]) (fun i => [(0, .box [.u (.int .i64 e.op), .u (.int .i64 e.n), .u (.int .i64 e.unit), .u (.str e.s), .u (.sl (e.args.map Exp.row))])]) 1 (fun i => lets.length - i.1) ⟨0, by omega⟩ ?_ ?_
 ·exact (Wk.cut2 (by simp [hn] <;> grind))
 rintro ⟨i, hi⟩
 simp
 rcases hx : lets[i]? with _ | l
 case some =>
  have hlt : i < lets.length := (List.getElem?_eq_some_iff.1 hx).1
  have h5 := rightExp_fun l.body
  have hsu := hsucc i l hx
  simp only [eagg] at h5
  generalize rightB 12 l.body = b at *
  cases hb : rn i
  ·rw [hb, Bool.false_and] at hsu
   repeat' (first
  | (refine Cnd.of (fun hc => ?_) (fun hc => ?_) <;> (try (exfalso; omega)) <;> (try simp [hx, hb]))
  | (refine V_run rfl ?_; simp [hx, hb])
  | (refine And.intro (by omega) ?_)
  | fail)
   refine LoopW.next ⟨i + 1, by omega⟩ (by simp; omega) ?_
   exact (Wk.cut2 (by simp [hn, hsu] <;> grind))
  ·rw [hb, Bool.true_and] at hsu
   repeat' (first
  | (refine Cnd.of (fun hc => ?_) (fun hc => ?_) <;> (try (exfalso; omega)) <;> (try simp [hx, hb]))
  | (refine V_run rfl ?_; simp [hx, hb])
  | (refine And.intro (by omega) ?_)
  | (refine CallP.f2 rfl (h5) (by first | simp [hx, hb] <;> rfl | fail) ?_; simp [hx, hb])
  | fail)
   refine LoopW.next ⟨i + 1, by omega⟩ (by simp; omega) ?_
   exact (Wk.cut2 (by simp [hn, hsu] <;> grind))
 have hge : lets.length ≤ i := by simpa using hx
 obtain rfl : i = lets.length := by omega
 rw [hall]
 by_cases he : er = 0
 case neg =>
  have := hnil he
  subst this
  have hee := herr he
  cases ra
  ·simp at hee
   subst hee
   repeat' (first
  | (refine V_run rfl ?_; simp [hx])
  | (refine CallP.f2 rfl (h3) (by first | simp [hx] <;> rfl | fail) ?_; simp [hx])
  | fail)
   (refine Pst.of ?_; simp)
  ·simp at hee
   subst hee
   repeat' (first
  | (refine V_run rfl ?_; simp [hx])
  | (refine CallP.f2 rfl (h3) (by first | simp [hx] <;> rfl | fail) ?_; simp [hx])
  | fail)
   (refine Pst.of ?_; simp)
 subst he
 obtain ⟨q1, q2, q3, q4, ⟨hs, q5, q6, q7⟩, q8⟩ := hlaw code rfl
 subst q1
 have h4 := heights_fun code (by omega)
 rw [q5] at h4
 have h5 := cright_fun code (by omega)
 rw [q2] at h5
 have h6 := list_right q2
 have h7 := read_back q2
 have h8 := rsameC_fun code code
 rw [decide_eq_true rfl] at h8
 have q4' : ¬ (2000 : Int) < code.length := by omega
 have q4'' : ¬ 2000 < code.length := by omega
 simp only [Vm.inss] at h4 h5 h6 h7 h8
 repeat' (first
  | (refine V_run rfl ?_; simp [hx, q4', q4''])
  | ((first | refine CallP.f2 rfl (h3) (by first | simp [hx, q4', q4''] <;> rfl | fail) ?_ | refine CallP.f2 rfl (h4) (by first | simp [hx, q4', q4''] <;> rfl | fail) ?_ | refine CallP.f2 rfl (h5) (by first | simp [hx, q4', q4''] <;> rfl | fail) ?_ | fail); simp [hx, q4', q4''])
  | fail)
 refine V_loopO (α := { i : Nat // i ≤ code.length }) [0, 3, 5, 8, 10] (fun i => [(12, .u (.int .i64 i.1))]) (fun i => [(0, .box [.u (.int .i64 e.op), .u (.int .i64 e.n), .u (.int .i64 e.unit), .u (.str e.s), .u (.sl (e.args.map Exp.row))])]) 1 (fun i => code.length - i.1) ⟨0, by omega⟩ ?_ ?_
 ·exact (Wk.cut2 (by simp [hn] <;> grind))
 rintro ⟨j, hj⟩
 simp
 rcases hy : code[j]? with _ | y
 case some =>
  have hlt : j < code.length := (List.getElem?_eq_some_iff.1 hy).1
  obtain ⟨z, hz⟩ : ∃ z, hs[j]? = some z := ⟨_, List.getElem?_eq_getElem (by omega)⟩
  have hz0 : ¬ z < 0 := by have := q7 z (List.mem_of_getElem? hz); omega
  have hq := q8 j y hy
  by_cases h14 : y.op = 14
  ·have hlast := hq.1 h14
   have hla : (j : Int) = code.length - 1 := by omega
   have q14 : (y.op = 14) = True := eq_true h14
   have qla : ((j : Int) = (code.length : Int) - 1) = True := eq_true hla
   repeat' (first
  | (refine Cnd.of (fun hc => ?_) (fun hc => ?_) <;> (try (exfalso; omega)) <;> (try simp [hy, hz, hz0, q14, qla]))
  | (refine V_run rfl ?_; simp [hy, hz, hz0, q14, qla])
  | (refine And.intro (by omega) ?_)
  | fail)
   refine LoopW.next ⟨j + 1, by omega⟩ (by simp; omega) ?_
   exact (Wk.cut2 (by simp [hn] <;> grind))
  ·have hlast : ¬ j + 1 = code.length := fun h => h14 (hq.2 h)
   have hla : ¬ (j : Int) = code.length - 1 := by omega
   have q14 : (y.op = 14) = False := eq_false h14
   have qla : ((j : Int) = (code.length : Int) - 1) = False := eq_false hla
   repeat' (first
  | (refine Cnd.of (fun hc => ?_) (fun hc => ?_) <;> (try (exfalso; omega)) <;> (try simp [hy, hz, hz0, q14, qla]))
  | (refine V_run rfl ?_; simp [hy, hz, hz0, q14, qla])
  | (refine And.intro (by omega) ?_)
  | fail)
   refine LoopW.next ⟨j + 1, by omega⟩ (by simp; omega) ?_
   exact (Wk.cut2 (by simp [hn] <;> grind))
 have hge2 : code.length ≤ j := by simpa using hy
 obtain rfl : j = code.length := by omega
 repeat' (first
  | (refine V_run rfl ?_; simp [hy])
  | ((first | refine CallP.f2 rfl (h6) (by first | simp [hy] <;> rfl | fail) ?_ | refine CallP.f2 rfl (h7) (by first | simp [hy] <;> rfl | fail) ?_ | refine CallP.f2 rfl (h8) (by first | simp [hy] <;> rfl | fail) ?_ | fail); simp [hy])
  | fail)
 (refine Pst.of ?_; simp)
end Go.Proofs.YtkdhmbhbbciedaaGreatDoor
