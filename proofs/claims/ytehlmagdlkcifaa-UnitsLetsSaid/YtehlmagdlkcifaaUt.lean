/- The documented examples; UnitsTells. -/
import Derived.Test.YtehlmagdlkcifaaUq
import Derived.Test.YtehlmagdlkcifaaUs
set_option linter.all false
set_option maxRecDepth 100000
set_option maxHeartbeats 8000000
namespace Go.VL
theorem CallP.wk {P : Program} {Γ : Ctx} {fop : Operand} {args : List Operand} {dst : Option Tmp} {s s' : St} {k : St → Prop} (hw : Wk Γ s s') (h : CallP P Γ fop args dst s' k) : CallP P Γ fop args dst s k := fun ts ty pos after K a w hin hs =>
  let ⟨K', h1, h2⟩ := hw K a w hin hs
  h ts ty pos after K' a w h1 h2
end Go.VL
namespace Go.Proofs.Ytehlmagdlkcifaa
open Go Go.VL
attribute [local simp] hcons hstep evPure opd uOf putOK St.put St.at getK binD binI binS binB nilD aggD eqUs cmpK lookD lookR rangeD nextD entryD keyD valU keyU lookK mkV entD_nil lookK_entD updK_entD1 updK_entD2 updK_entD3 allUE allUE_entD makeMapD mapUpdD mapEff updK valM Key.kk shiftI arith unD convD pickD loadD cellsAt fieldAddrD fieldD indexAddrD indexD sliceD cutD lenD minmaxD nilCheckD buildD fillD cellsD isOne ones setAll mkAgg allU allocD boxD storeD St.add buildSliceD appendD rowsOf makeD setOb getK_setOb getK_del getK_cons stripL strip guardTmp entry chunks zcells valD argsV argsW argW argU1 argU0 argsU0 argsU1 calleeOf scalarD scalarU delAll effD St.effS RK_seq RK_seq_ret RK_seq_exit RK_blk RK_blk_ret RK_blk_exit RK_loop RK_loop_ret RK_loop_exit RK_done vs_seq vs_block vs_skip vs_label vs_exit vs_ret vs_cond vs_region vs_loop vs_draw vs_range vs_scope applyW mkD rdIds lentIds callOf calleeOf freeOp D.ids Op.operands Call.operands isEffOp IntKind.bits allU2 allU2_append List.take_of_length_le List.range_succ
attribute [local irreducible] V G H HD HD2 RunK Eff CallP CallV EndOK Fun Ret FinOK LoopI LoopW EndW
theorem small_fun : Fun Try.prog 7 [] (· = .u (.bool true)) := by
  have n1 := names_fun [112, 97, 121]
  have n2 := names_fun [100, 117, 101]
  rw [show namesS [112, 97, 121] = [(Var.mk [112, 111, 116] 3 0), (Var.mk [98, 105, 100] 3 0), (Var.mk [109, 101, 109, 98, 101, 114, 115] 1 0), (Var.mk [112, 101, 114, 105, 111, 100] 1 0)] from rfl] at n1
  rw [show namesS [100, 117, 101] = [(Var.mk [109, 101, 109, 98, 101, 114, 115] 1 0), (Var.mk [112, 101, 114, 105, 111, 100] 1 0), (Var.mk [108, 97, 115, 116] 1 0), (Var.mk [97, 103, 101] 2 0)] from rfl] at n2
  have m1 := lname_fun [112, 111, 116]
  have m2 := lname_fun [98, 105, 100]
  have m3 := lname_fun [109, 101, 109, 98, 101, 114, 115]
  have m4 := lname_fun [97, 103, 101]
  have m5 := lname_fun [120]
  have m6 := lname_fun [121]
  have o1 := lof_fun 50 4
  have o2 := lof_fun 3 2
  have o3 := lof_fun 7 2
  have o4 := lof_fun 3 1
  have o5 := lof_fun 200 4
  have o6 := lof_fun 500 4
  have o7 := lof_fun 100 3
  have o8 := lof_fun 0 3
  have o9 := lof_fun 5 2
  have p1 := lop_fun 4 (Exp.mk 1 0 0 [112, 111, 116] []) (Exp.mk 0 50 4 [] [])
  have p2 := lop_fun 5 (Exp.mk 1 0 0 [98, 105, 100] []) (Exp.mk 1 0 0 [109, 101, 109, 98, 101, 114, 115] [])
  have p3 := lop_fun 3 (Exp.mk 4 0 0 [] [(Exp.mk 1 0 0 [112, 111, 116] []), (Exp.mk 0 50 4 [] [])]) (Exp.mk 5 0 0 [] [(Exp.mk 1 0 0 [98, 105, 100] []), (Exp.mk 1 0 0 [109, 101, 109, 98, 101, 114, 115] [])])
  have p4 := lop_fun 2 (Exp.mk 1 0 0 [97, 103, 101] []) (Exp.mk 0 3 2 [] [])
  have p5 := lop_fun 8 (Exp.mk 2 0 0 [] [(Exp.mk 1 0 0 [97, 103, 101] []), (Exp.mk 0 3 2 [] [])]) (Exp.mk 0 7 2 [] [])
  have p6 := lop_fun 2 (Exp.mk 1 0 0 [112, 111, 116] []) (Exp.mk 1 0 0 [97, 103, 101] [])
  have p7 := lop_fun 4 (Exp.mk 0 200 4 [] []) (Exp.mk 0 500 4 [] [])
  have u1 := unitOf_fun [] [(Var.mk [112, 111, 116] 3 0), (Var.mk [98, 105, 100] 3 0), (Var.mk [109, 101, 109, 98, 101, 114, 115] 1 0), (Var.mk [112, 101, 114, 105, 111, 100] 1 0)] (Exp.mk 3 0 0 [] [(Exp.mk 4 0 0 [] [(Exp.mk 1 0 0 [112, 111, 116] []), (Exp.mk 0 50 4 [] [])]), (Exp.mk 5 0 0 [] [(Exp.mk 1 0 0 [98, 105, 100] []), (Exp.mk 1 0 0 [109, 101, 109, 98, 101, 114, 115] [])])])
  have u2 := unitOf_fun [] [(Var.mk [109, 101, 109, 98, 101, 114, 115] 1 0), (Var.mk [112, 101, 114, 105, 111, 100] 1 0), (Var.mk [108, 97, 115, 116] 1 0), (Var.mk [97, 103, 101] 2 0)] (Exp.mk 8 0 0 [] [(Exp.mk 2 0 0 [] [(Exp.mk 1 0 0 [97, 103, 101] []), (Exp.mk 0 3 2 [] [])]), (Exp.mk 0 7 2 [] [])])
  have u3 := unitOf_fun [] [(Var.mk [112, 111, 116] 3 0), (Var.mk [98, 105, 100] 3 0), (Var.mk [109, 101, 109, 98, 101, 114, 115] 1 0), (Var.mk [112, 101, 114, 105, 111, 100] 1 0), (Var.mk [109, 101, 109, 98, 101, 114, 115] 1 0), (Var.mk [112, 101, 114, 105, 111, 100] 1 0), (Var.mk [108, 97, 115, 116] 1 0), (Var.mk [97, 103, 101] 2 0)] (Exp.mk 2 0 0 [] [(Exp.mk 1 0 0 [112, 111, 116] []), (Exp.mk 1 0 0 [97, 103, 101] [])])
  have u4 := unitOf_fun [Let.mk [120] (Exp.mk 1 0 0 [121] []), Let.mk [121] (Exp.mk 0 3 1 [] [])] [] (Exp.mk 1 0 0 [120] [])
  have u5 := unitOf_fun [] [] (Exp.mk 4 0 0 [] [(Exp.mk 0 200 4 [] []), (Exp.mk 0 500 4 [] [])])
  have c1 := checkP_fun (By.mk 0 7 0 0 10 0 false 0 0 0 0 [] (Exp.mk 0 100 3 [] []) (Exp.mk 0 0 3 [] []) (Exp.mk 1 0 0 [112, 111, 116] []) (Exp.mk 0 0 3 [] []) (Exp.mk 0 5 2 [] []))
  have s1 := shareP_fun [] (Exp.mk 4 0 0 [] [(Exp.mk 0 200 4 [] []), (Exp.mk 0 500 4 [] [])])
  rw [show unitP [] [(Var.mk [112, 111, 116] 3 0), (Var.mk [98, 105, 100] 3 0), (Var.mk [109, 101, 109, 98, 101, 114, 115] 1 0), (Var.mk [112, 101, 114, 105, 111, 100] 1 0)] (Exp.mk 3 0 0 [] [(Exp.mk 4 0 0 [] [(Exp.mk 1 0 0 [112, 111, 116] []), (Exp.mk 0 50 4 [] [])]), (Exp.mk 5 0 0 [] [(Exp.mk 1 0 0 [98, 105, 100] []), (Exp.mk 1 0 0 [109, 101, 109, 98, 101, 114, 115] [])])]) = (3, 0) by kernel_rfl] at u1
  rw [show unitP [] [(Var.mk [109, 101, 109, 98, 101, 114, 115] 1 0), (Var.mk [112, 101, 114, 105, 111, 100] 1 0), (Var.mk [108, 97, 115, 116] 1 0), (Var.mk [97, 103, 101] 2 0)] (Exp.mk 8 0 0 [] [(Exp.mk 2 0 0 [] [(Exp.mk 1 0 0 [97, 103, 101] []), (Exp.mk 0 3 2 [] [])]), (Exp.mk 0 7 2 [] [])]) = (0, 0) by kernel_rfl] at u2
  rw [show unitP [] [(Var.mk [112, 111, 116] 3 0), (Var.mk [98, 105, 100] 3 0), (Var.mk [109, 101, 109, 98, 101, 114, 115] 1 0), (Var.mk [112, 101, 114, 105, 111, 100] 1 0), (Var.mk [109, 101, 109, 98, 101, 114, 115] 1 0), (Var.mk [112, 101, 114, 105, 111, 100] 1 0), (Var.mk [108, 97, 115, 116] 1 0), (Var.mk [97, 103, 101] 2 0)] (Exp.mk 2 0 0 [] [(Exp.mk 1 0 0 [112, 111, 116] []), (Exp.mk 1 0 0 [97, 103, 101] [])]) = (0, 14) by kernel_rfl] at u3
  rw [show unitP [Let.mk [120] (Exp.mk 1 0 0 [121] []), Let.mk [121] (Exp.mk 0 3 1 [] [])] [] (Exp.mk 1 0 0 [120] []) = (0, 13) by kernel_rfl] at u4
  rw [show unitP [] [] (Exp.mk 4 0 0 [] [(Exp.mk 0 200 4 [] []), (Exp.mk 0 500 4 [] [])]) = (4, 0) by kernel_rfl] at u5
  rw [show checkP (By.mk 0 7 0 0 10 0 false 0 0 0 0 [] (Exp.mk 0 100 3 [] []) (Exp.mk 0 0 3 [] []) (Exp.mk 1 0 0 [112, 111, 116] []) (Exp.mk 0 0 3 [] []) (Exp.mk 0 5 2 [] [])) = ([104, 111, 108, 100], 14) by kernel_rfl] at c1
  rw [show shareP [] (Exp.mk 4 0 0 [] [(Exp.mk 0 200 4 [] []), (Exp.mk 0 500 4 [] [])]) = true by kernel_rfl] at s1
  have i1 := is_fun 3 0 3
  have i2 := is_fun 0 0 0
  have i3 := is_fun 4 0 4
  simp only [eagg, varsU, letsU, byCells, Exp.op, Exp.n, Exp.unit, Exp.s, Exp.args, List.map_cons, List.map_nil] at n1 n2 m1 m2 m3 m4 m5 m6 o1 o2 o3 o4 o5 o6 o7 o8 o9 p1 p2 p3 p4 p5 p6 p7 u1 u2 u3 u4 u5 c1 s1
  (refine Fun.of_body Try.func7 rfl (by simp) fun Γ hn => ?_); simp only [entry, List.zipIdx_cons, List.zipIdx_nil, List.map_cons, List.map_nil, Nat.zero_add, Try.ntmps7]
  repeat' (first
    | (refine H_cons ?_; simp [zcells, chunks])
    | (refine H_nil ?_; simp [zcells, chunks])
    | (refine V_sseq ?_; simp [zcells, chunks])
    | (refine CallP.fun_ (n1) (by first | rfl | fail) (by first | assumption | (simp; done) | fail) (by first | (simp [zcells, chunks]; done) | (simp [zcells, chunks]; rfl) | fail) (by first | (simp; done) | fail) (fun d hd => ?_); subst hd; (try simp [zcells, chunks]))
    | (refine CallP.fun_ (n2) (by first | rfl | fail) (by first | assumption | (simp; done) | fail) (by first | (simp [zcells, chunks]; done) | (simp [zcells, chunks]; rfl) | fail) (by first | (simp; done) | fail) (fun d hd => ?_); subst hd; (try simp [zcells, chunks]))
    | (refine CallP.fun_ (m1) (by first | rfl | fail) (by first | assumption | (simp; done) | fail) (by first | (simp [zcells, chunks]; done) | (simp [zcells, chunks]; rfl) | fail) (by first | (simp; done) | fail) (fun d hd => ?_); subst hd; (try simp [zcells, chunks]))
    | (refine CallP.fun_ (m2) (by first | rfl | fail) (by first | assumption | (simp; done) | fail) (by first | (simp [zcells, chunks]; done) | (simp [zcells, chunks]; rfl) | fail) (by first | (simp; done) | fail) (fun d hd => ?_); subst hd; (try simp [zcells, chunks]))
    | (refine CallP.fun_ (m3) (by first | rfl | fail) (by first | assumption | (simp; done) | fail) (by first | (simp [zcells, chunks]; done) | (simp [zcells, chunks]; rfl) | fail) (by first | (simp; done) | fail) (fun d hd => ?_); subst hd; (try simp [zcells, chunks]))
    | (refine CallP.fun_ (m4) (by first | rfl | fail) (by first | assumption | (simp; done) | fail) (by first | (simp [zcells, chunks]; done) | (simp [zcells, chunks]; rfl) | fail) (by first | (simp; done) | fail) (fun d hd => ?_); subst hd; (try simp [zcells, chunks]))
    | (refine CallP.fun_ (m5) (by first | rfl | fail) (by first | assumption | (simp; done) | fail) (by first | (simp [zcells, chunks]; done) | (simp [zcells, chunks]; rfl) | fail) (by first | (simp; done) | fail) (fun d hd => ?_); subst hd; (try simp [zcells, chunks]))
    | (refine CallP.fun_ (m6) (by first | rfl | fail) (by first | assumption | (simp; done) | fail) (by first | (simp [zcells, chunks]; done) | (simp [zcells, chunks]; rfl) | fail) (by first | (simp; done) | fail) (fun d hd => ?_); subst hd; (try simp [zcells, chunks]))
    | (refine CallP.fun_ (o1) (by first | rfl | fail) (by first | assumption | (simp; done) | fail) (by first | (simp [zcells, chunks]; done) | (simp [zcells, chunks]; rfl) | fail) (by first | (simp; done) | fail) (fun d hd => ?_); subst hd; (try simp [zcells, chunks]))
    | (refine CallP.fun_ (o2) (by first | rfl | fail) (by first | assumption | (simp; done) | fail) (by first | (simp [zcells, chunks]; done) | (simp [zcells, chunks]; rfl) | fail) (by first | (simp; done) | fail) (fun d hd => ?_); subst hd; (try simp [zcells, chunks]))
    | (refine CallP.fun_ (o3) (by first | rfl | fail) (by first | assumption | (simp; done) | fail) (by first | (simp [zcells, chunks]; done) | (simp [zcells, chunks]; rfl) | fail) (by first | (simp; done) | fail) (fun d hd => ?_); subst hd; (try simp [zcells, chunks]))
    | (refine CallP.fun_ (o4) (by first | rfl | fail) (by first | assumption | (simp; done) | fail) (by first | (simp [zcells, chunks]; done) | (simp [zcells, chunks]; rfl) | fail) (by first | (simp; done) | fail) (fun d hd => ?_); subst hd; (try simp [zcells, chunks]))
    | (refine CallP.fun_ (o5) (by first | rfl | fail) (by first | assumption | (simp; done) | fail) (by first | (simp [zcells, chunks]; done) | (simp [zcells, chunks]; rfl) | fail) (by first | (simp; done) | fail) (fun d hd => ?_); subst hd; (try simp [zcells, chunks]))
    | (refine CallP.fun_ (o6) (by first | rfl | fail) (by first | assumption | (simp; done) | fail) (by first | (simp [zcells, chunks]; done) | (simp [zcells, chunks]; rfl) | fail) (by first | (simp; done) | fail) (fun d hd => ?_); subst hd; (try simp [zcells, chunks]))
    | (refine CallP.fun_ (o7) (by first | rfl | fail) (by first | assumption | (simp; done) | fail) (by first | (simp [zcells, chunks]; done) | (simp [zcells, chunks]; rfl) | fail) (by first | (simp; done) | fail) (fun d hd => ?_); subst hd; (try simp [zcells, chunks]))
    | (refine CallP.fun_ (o8) (by first | rfl | fail) (by first | assumption | (simp; done) | fail) (by first | (simp [zcells, chunks]; done) | (simp [zcells, chunks]; rfl) | fail) (by first | (simp; done) | fail) (fun d hd => ?_); subst hd; (try simp [zcells, chunks]))
    | (refine CallP.fun_ (o9) (by first | rfl | fail) (by first | assumption | (simp; done) | fail) (by first | (simp [zcells, chunks]; done) | (simp [zcells, chunks]; rfl) | fail) (by first | (simp; done) | fail) (fun d hd => ?_); subst hd; (try simp [zcells, chunks]))
    | (refine CallP.fun_ (p1) (by first | rfl | fail) (by first | assumption | (simp; done) | fail) (by first | (simp [zcells, chunks]; done) | (simp [zcells, chunks]; rfl) | fail) (by first | (simp; done) | fail) (fun d hd => ?_); subst hd; (try simp [zcells, chunks]))
    | (refine CallP.fun_ (p2) (by first | rfl | fail) (by first | assumption | (simp; done) | fail) (by first | (simp [zcells, chunks]; done) | (simp [zcells, chunks]; rfl) | fail) (by first | (simp; done) | fail) (fun d hd => ?_); subst hd; (try simp [zcells, chunks]))
    | (refine CallP.fun_ (p3) (by first | rfl | fail) (by first | assumption | (simp; done) | fail) (by first | (simp [zcells, chunks]; done) | (simp [zcells, chunks]; rfl) | fail) (by first | (simp; done) | fail) (fun d hd => ?_); subst hd; (try simp [zcells, chunks]))
    | (refine CallP.fun_ (p4) (by first | rfl | fail) (by first | assumption | (simp; done) | fail) (by first | (simp [zcells, chunks]; done) | (simp [zcells, chunks]; rfl) | fail) (by first | (simp; done) | fail) (fun d hd => ?_); subst hd; (try simp [zcells, chunks]))
    | (refine CallP.fun_ (p5) (by first | rfl | fail) (by first | assumption | (simp; done) | fail) (by first | (simp [zcells, chunks]; done) | (simp [zcells, chunks]; rfl) | fail) (by first | (simp; done) | fail) (fun d hd => ?_); subst hd; (try simp [zcells, chunks]))
    | (refine CallP.fun_ (p6) (by first | rfl | fail) (by first | assumption | (simp; done) | fail) (by first | (simp [zcells, chunks]; done) | (simp [zcells, chunks]; rfl) | fail) (by first | (simp; done) | fail) (fun d hd => ?_); subst hd; (try simp [zcells, chunks]))
    | (refine CallP.fun_ (p7) (by first | rfl | fail) (by first | assumption | (simp; done) | fail) (by first | (simp [zcells, chunks]; done) | (simp [zcells, chunks]; rfl) | fail) (by first | (simp; done) | fail) (fun d hd => ?_); subst hd; (try simp [zcells, chunks]))
    | (refine CallP.fun_ (u1) (by first | rfl | fail) (by first | assumption | (simp; done) | fail) (by first | (simp [zcells, chunks]; done) | (simp [zcells, chunks]; rfl) | fail) (by first | (simp; done) | fail) (fun d hd => ?_); subst hd; (try simp [zcells, chunks]))
    | (refine CallP.fun_ (u2) (by first | rfl | fail) (by first | assumption | (simp; done) | fail) (by first | (simp [zcells, chunks]; done) | (simp [zcells, chunks]; rfl) | fail) (by first | (simp; done) | fail) (fun d hd => ?_); subst hd; (try simp [zcells, chunks]))
    | (refine CallP.fun_ (u3) (by first | rfl | fail) (by first | assumption | (simp; done) | fail) (by first | (simp [zcells, chunks]; done) | (simp [zcells, chunks]; rfl) | fail) (by first | (simp; done) | fail) (fun d hd => ?_); subst hd; (try simp [zcells, chunks]))
    | (refine CallP.fun_ (u4) (by first | rfl | fail) (by first | assumption | (simp; done) | fail) (by first | (simp [zcells, chunks]; done) | (simp [zcells, chunks]; rfl) | fail) (by first | (simp; done) | fail) (fun d hd => ?_); subst hd; (try simp [zcells, chunks]))
    | (refine CallP.fun_ (u5) (by first | rfl | fail) (by first | assumption | (simp; done) | fail) (by first | (simp [zcells, chunks]; done) | (simp [zcells, chunks]; rfl) | fail) (by first | (simp; done) | fail) (fun d hd => ?_); subst hd; (try simp [zcells, chunks]))
    | fail)
  refine CallP.wk (Wk.norm _) ?_
  simp [St.norm, normD, normU, norm1, normOb]
  repeat' (first
    | (refine H_cons ?_; simp)
    | (refine H_nil ?_; simp)
    | (refine V_sseq ?_; simp)
    | (refine V_ret ?_; simp only [RK_seq, RK_seq_ret, RK_seq_exit, RK_blk, RK_blk_ret, RK_blk_exit, RK_loop, RK_loop_ret, RK_loop_exit, RK_done])
    | (refine CallP.fun_ (c1) (by first | rfl | fail) (by first | assumption | (simp; done) | fail) (by first | (simp; done) | (simp; rfl) | fail) (by first | (simp; done) | fail) (fun d hd => ?_); subst hd; (try simp))
    | (refine CallP.fun_ (s1) (by first | rfl | fail) (by first | assumption | (simp; done) | fail) (by first | (simp; done) | (simp; rfl) | fail) (by first | (simp; done) | fail) (fun d hd => ?_); subst hd; (try simp))
    | (refine CallP.fun_ (i1) (by first | rfl | fail) (by first | assumption | (simp; done) | fail) (by first | (simp; done) | (simp; rfl) | fail) (by first | (simp; done) | fail) (fun d hd => ?_); subst hd; (try simp))
    | (refine CallP.fun_ (i2) (by first | rfl | fail) (by first | assumption | (simp; done) | fail) (by first | (simp; done) | (simp; rfl) | fail) (by first | (simp; done) | fail) (fun d hd => ?_); subst hd; (try simp))
    | (refine CallP.fun_ (i3) (by first | rfl | fail) (by first | assumption | (simp; done) | fail) (by first | (simp; done) | (simp; rfl) | fail) (by first | (simp; done) | fail) (fun d hd => ?_); subst hd; (try simp))
    | fail)
  all_goals
    (refine EndOK.val (.inr rfl) ?_; simp [resD, oneOrTup, pureD, Try.results7])
end Go.Proofs.Ytehlmagdlkcifaa
