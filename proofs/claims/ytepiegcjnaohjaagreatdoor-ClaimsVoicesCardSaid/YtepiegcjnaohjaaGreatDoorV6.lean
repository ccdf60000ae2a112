/- Texts joined by a program of mine: Ze Mi My Mj Mk. -/
import Derived.Test.YtepiegcjnaohjaaGreatDoorV5
set_option linter.all false
set_option maxRecDepth 100000
set_option maxHeartbeats 8000000
namespace Go.Proofs.YtepiegcjnaohjaaGreatDoor
open Go Go.VL
attribute [local simp] HS hcons hstep evPure opd uOf putOK St.put St.at getK binD binI binS binB nilD aggD eqUs cmpK lookD lookR rangeD rangeS Go.VL.nextD Go.VL.nextS entryD keyD valU keyU lookK mkV lookK_entD updK_entD1 allUE allUE_entD makeMapD mapUpdD mapEff updK valM Key.kk shiftI arith unD convD pickD loadD cellsAt fieldAddrD fieldD indexAddrD indexSlD arrAddr indexD sliceD cutD lenD minmaxD nilCheckD buildD fillD cellsD isOne ones setAll mkAgg allU allocD boxD storeD St.add buildSliceD appendD rowsOf makeD setOb getK_setOb getK_del getK_cons stripL strip guardTmp entry chunks zcells valD argsV argsW argW argU1 argU0 argsU0 argsU1 calleeOf scalarD scalarU delAll effD St.effS RK_seq RK_seq_ret RK_seq_exit RK_blk RK_blk_ret RK_blk_exit RK_loop RK_loop_ret RK_loop_exit RK_done vs_seq vs_block vs_cond vs_region vs_loop vs_draw applyW mkD rdIds lentIds callOf calleeOf freeOp D.ids Op.operands Call.operands isEffOp makeIfD makeFuncD typeAssertD conc concs conc1 uOfV panicD IntKind.bits allU2 List.take_of_length_le List.range_succ
attribute [local irreducible] V G H HD HD2 HD4 HD4h RetX RunK Eff CallP CallV EndOK Fun Ret FinOK LoopI LoopW EndW
theorem bdef_ret (i j q nx : Nat) (hi : i < nx) (hj : j < nx) (hq : q < nx) (hij : i ≠ j) (hiq : i ≠ q) (hjq : j ≠ q) (p e : Int) (cells : List U) :
    RetDf Tryz.prog 62 [.ptr i 0, .ptr j 0, .ptr q 0] [(i, .box [.u (.int .i64 p)]), (j, .box [.u (.int .i64 e)]), (q, .box (cells.map .u))] nx .returning
      (fun u o n => settle u = .returning ∧ n = nx ∧ o = [(i, .box [.u (.int .i64 p)]), (j, .box [.u (.int .i64 e)]), (q, .box (cells.map .u))]) := by
  have hne := ne_facts hi
  have hne2 := ne_facts hj
  have hne3 := ne_facts hq
  have hc0 := caught_none i j nx hi hj hij p e
  refine RetDf.of_body Tryz.func62 rfl (by simp) (by simp) rfl fun Γ hn => ?_
  simp [entry, recU, Tryz.ntmps62]
  refine CallP.x2 hc0 (by simp [getK]) (by simp [getK, hij, Ne.symm hij]) hij rfl rfl (by simp) (by simp) (fun d o1 nx' hnx h => ?_) (fun ch o1 nx' hnx h => by cases h.1)
  obtain ⟨h1, rfl, h4⟩ := h
  have h4 := h4.symm
  subst h4
  cases h1
  simp [del, hij, Ne.symm hij, hiq, hjq, Ne.symm hiq, Ne.symm hjq]
  repeat' (first
    | (refine V_scond ?_; simp [hij, hiq, hjq])
    | (refine V_skip ?_; simp only [RunK])
    | fail)
  (refine ⟨by simp, { n := _, env := [], obs := [(i, .box [.u (.int .i64 p)]), (j, .box [.u (.int .i64 e)]), (q, .box (cells.map .u))], next := nx }, (Wk.cut rfl (by simp [hn]) (by simp [wkO, getK_cons, getK, getK_append, getK_del, Ob.under, D.under, under_rowsD, under_entD, hi, hj, hq, hne, hne2, hne3, hij, hiq, hjq, Ne.symm hij, Ne.symm hiq, Ne.symm hjq]) (by simp [wkU, keepE, getK_cons, getK, D.under, hi, hj, hq, hne, hne2, hne3, hij, hiq, hjq, Ne.symm hij, Ne.symm hiq, Ne.symm hjq]) (by simp [wkE, keepE, getK_cons, getK, hi, hj, hq, hne, hne2, hne3, hij, hiq, hjq, Ne.symm hij, Ne.symm hiq, Ne.symm hjq])), by simp [hn], ?_⟩; try simp)
  all_goals rfl
theorem bdef_pan (i j q nx : Nat) (hi : i < nx) (hj : j < nx) (hq : q < nx) (hij : i ≠ j) (hiq : i ≠ q) (hjq : j ≠ q) (p e pos err : Int) :
    RetDf Tryz.prog 62 [.ptr i 0, .ptr j 0, .ptr q 0] [(i, .box [.u (.int .i64 p)]), (j, .box [.u (.int .i64 e)]), (q, byOb0)] nx (.panicking (chP pos err))
      (fun u o n => settle u = .returning ∧ n = nx ∧ o = [(i, .box [.u (.int .i64 pos)]), (j, .box [.u (.int .i64 err)]), (q, byOb0)]) := by
  have hne := ne_facts hi
  have hne2 := ne_facts hj
  have hne3 := ne_facts hq
  have hc0 := caught_stop i j nx hi hj hij p e pos err
  refine RetDf.of_body Tryz.func62 rfl (by simp) (by simp) rfl fun Γ hn => ?_
  simp [entry, recU, chP, Tryz.ntmps62]
  refine CallP.x2 hc0 (by simp [getK]) (by simp [getK, hij, Ne.symm hij]) hij rfl rfl (by simp) (by simp) (fun d o1 nx' hnx h => ?_) (fun ch o1 nx' hnx h => by cases h.1)
  obtain ⟨h1, rfl, h4⟩ := h
  have h4 := h4.symm
  subst h4
  cases h1
  simp [del, hij, Ne.symm hij, hiq, hjq, Ne.symm hiq, Ne.symm hjq]
  repeat' (first
    | (refine H_cons ?_; simp [hij, hiq, hjq])
    | (refine H_nil ?_; simp [hij, hiq, hjq])
    | (refine V_scond ?_; simp [hij, hiq, hjq])
    | (refine V_sregion ?_; simp [hij, hiq, hjq])
    | fail)
  (refine ⟨by simp, { n := _, env := [], obs := [(i, .box [.u (.int .i64 pos)]), (j, .box [.u (.int .i64 err)]), (q, byOb0)], next := nx }, (Wk.cut rfl (by simp [hn]) (by simp [wkO, getK_cons, getK, getK_append, getK_del, Ob.under, D.under, under_rowsD, under_entD, hi, hj, hq, hne, hne2, hne3, hij, hiq, hjq, Ne.symm hij, Ne.symm hiq, Ne.symm hjq]) (by simp [wkU, keepE, getK_cons, getK, D.under, hi, hj, hq, hne, hne2, hne3, hij, hiq, hjq, Ne.symm hij, Ne.symm hiq, Ne.symm hjq]) (by simp [wkE, keepE, getK_cons, getK, hi, hj, hq, hne, hne2, hne3, hij, hiq, hjq, Ne.symm hij, Ne.symm hiq, Ne.symm hjq])), by simp [hn], ?_⟩; try simp)
  all_goals rfl
theorem parse_ret (s : W8) : RetX Tryz.prog 25 [.u (.str s)] [] 0 (fun r o n => r = .val (bOut (parseB s))) := by
  skip
  unfold parseB
  cases hlx : lexL s with
  | error pe =>
    obtain ⟨p, e⟩ := pe
    have ho := fun nx => open_err s p e nx hlx
    have he := (lexL_err hlx).1
    simp only
    (refine RetX.of_bodyD Tryz.func25 rfl (by simp) fun Γ hn hdfr hpan hesc => ?_); simp only [entry, List.zipIdx_cons, List.zipIdx_nil, List.map_cons, List.map_nil, Nat.zero_add, Tryz.ntmps25]
    repeat' (first
    | (refine H_cons ?_; simp [he])
    | (refine HD4_val rfl ?_; simp [he])
    | (refine HD4_chg rfl ?_; simp [he])
    | (refine H_nil ?_; simp [he])
    | (refine V_sseq ?_; simp [he])
    | (refine V_scond ?_; simp [he])
    | (refine HD4_nil (hC _ (by kernel_rfl)) (hk _ ?_); clear hC hk C k; simp only [RunK])
    | (refine V_drawX rfl (by kernel_rfl) (by first | (simp [hn]; done) | (simp [hn]; omega) | fail) fun C k hC hk => ?_; simp [he])
    | (refine V_ret ?_; simp only [RunK])
    | (refine CallP.okL (ho _) (by first | (simp [he, getK_cons, getK, getK_append, getK_del, getK_setOb, applyW, del]; done) | fail) (by rfl) (by first | assumption | (simp; done) | fail) (by rfl) (by simp) ?_; (try simp [he, delL, del]))
    | fail)
    refine EndW.norm ?_
    simp [St.norm, normOb, normD, normU, norm1]
    (refine EndW.here ?_; (first | (refine EndOK.fin (.inr rfl) ?_) | (refine EndOK.fin (.inl rfl) ?_)); simp [resD, oneOrTup, Tryz.results25]; refine FinOK.here (by simp) ?_; try simp)
    simp [bOut, byCells, zeroBy, zeroE, Exp.op, Exp.n, Exp.unit, Exp.s, Exp.args]
  | ok l =>
    obtain ⟨hl, hl2, hl0⟩ := lexL_ok hlx
    have ho := fun nx => open_ok s l nx hlx
    have hE := bylaws_ret l hl0 hl hl2
    simp only
    cases hr : bylP l with
    | stop pos e =>
      simp only [hr] at hE ⊢
      (refine RetX.of_bodyD Tryz.func25 rfl (by simp) fun Γ hn hdfr hpan hesc => ?_); simp only [entry, List.zipIdx_cons, List.zipIdx_nil, List.map_cons, List.map_nil, Nat.zero_add, Tryz.ntmps25]
      rw [hold_defer]
      repeat' (first
    | (refine H_cons ?_; simp)
    | (refine H_nil ?_; simp)
    | (refine V_sseq ?_; simp)
    | (refine V_scond ?_; simp)
    | (refine V_skip ?_; simp only [RunK])
    | (refine CallP.okL (ho _) (by first | (simp [getK_cons, getK, getK_append, getK_del, getK_setOb, applyW, del]; done) | fail) (by rfl) (by first | assumption | (simp; done) | fail) (by rfl) (by simp) ?_; (try simp [delL, del]))
    | fail)
      refine V_defer hesc hdfr rfl (by simp) ?_
      have hn0 := hn
      have hpan0 := hpan
      intro Γ' hn hpan
      simp
      repeat' (first
    | (refine H_cons ?_; simp)
    | (refine V_sseq ?_; simp)
    | (refine CallP.pan1 (hE) (by first | (simp [getK_cons, getK, getK_append, getK_del]; done) | fail) (by rfl) (by first | assumption | (simp; done) | fail) (by rfl) (by simp) ?_; rintro ob' ⟨q', rfl⟩; refine ⟨_, Wk.refl _, ?_⟩)
    | fail)
      refine hpan _ _ ?_
      refine LeaveD.of [(1, .box [.u (.int .i64 0)]), (2, .box [.u (.int .i64 0)]), (0, byOb0)] (by simp [getK_cons, getK, getK_append, getK_del]) (bdef_pan 1 2 0 _ (by simp) (by simp) (by simp) (by decide) (by decide) (by decide) 0 0 _ _) ?_
      simp only [show Γ.base.n0 = 0 from hn0]
      simp [delL, del]
      refine EndW.norm ?_
      simp [St.norm, normOb, normD, normU, norm1]
      (refine EndW.here ?_; (first | (refine EndOK.fin (.inr rfl) ?_) | (refine EndOK.fin (.inl rfl) ?_)); simp [resD, oneOrTup, Tryz.results25]; refine FinOK.here (by simp) ?_; try simp)
      simp [bOut, byCells, zeroBy, zeroE, Exp.op, Exp.n, Exp.unit, Exp.s, Exp.args]
    | ok b q =>
      have hEx : RetX Tryz.prog 64 [.ptr 3 0] [(3, pOb l 0)] 4 (fun r o n => r = .val (.u (.agg (byCells b))) ∧ o = [(3, pOb l q)] ∧ n = 4) := by
        rw [hr] at hE
        exact hE
      unfold byCells at hEx
      (refine RetX.of_bodyD Tryz.func25 rfl (by simp) fun Γ hn hdfr hpan hesc => ?_); simp only [entry, List.zipIdx_cons, List.zipIdx_nil, List.map_cons, List.map_nil, Nat.zero_add, Tryz.ntmps25]
      rw [hold_defer]
      repeat' (first
    | (refine H_cons ?_; simp)
    | (refine H_nil ?_; simp)
    | (refine V_sseq ?_; simp)
    | (refine V_scond ?_; simp)
    | (refine V_skip ?_; simp only [RunK])
    | (refine CallP.okL (ho _) (by first | (simp [getK_cons, getK, getK_append, getK_del, getK_setOb, applyW, del]; done) | fail) (by rfl) (by first | assumption | (simp; done) | fail) (by rfl) (by simp) ?_; (try simp [delL, del]))
    | fail)
      refine V_defer hesc hdfr rfl (by simp) ?_
      have hn0 := hn
      have hpan0 := hpan
      intro Γ' hn hpan
      simp
      repeat' (first
    | (refine H_cons ?_; simp [del])
    | (refine H_nil ?_; simp [del])
    | (refine V_sseq ?_; simp [del])
    | (refine V_ret ?_; simp only [RunK])
    | (refine CallP.ok1 (hEx) (by first | (simp [del, getK_cons, getK, getK_append, getK_del]; done) | fail) (by rfl) (by first | assumption | (simp; done) | fail) (by rfl) (by simp) ?_; (try simp [del]))
    | fail)
      refine ⟨rfl, ?_⟩
      refine LeaveD.of [(1, .box [.u (.int .i64 0)]), (2, .box [.u (.int .i64 0)]), (0, .box ((byCells b).map .u))] (by simp [getK_cons, getK, getK_append, getK_del, byCells]) (bdef_ret 1 2 0 _ (by simp) (by simp) (by simp) (by decide) (by decide) (by decide) 0 0 _) ?_
      simp only [show Γ.base.n0 = 0 from hn0]
      simp [delL, del, byCells]
      (refine EndW.here ?_; (first | (refine EndOK.fin (.inr rfl) ?_) | (refine EndOK.fin (.inl rfl) ?_)); simp [resD, oneOrTup, Tryz.results25]; refine FinOK.here (by simp) ?_; try simp)
      simp [bOut, byCells]
theorem parse_fun (s : W8) : Fun Tryz.prog 25 [.u (.str s)] (· = .tup [byD (parseB s).1, .u (.int .i64 (parseB s).2.1), .u (.int .i64 (parseB s).2.2)]) := by
  unfold Fun
  exact (parse_ret s).ret (fun d o n h => by
    cases h
    exact ⟨by simp [bOut, pureD], rfl⟩) (fun ch o n h => by cases h)

theorem laws_fun : Fun Tryz.prog 96 [] (· = .u (.agg (byCells bL))) := by
  have h1 := parse_fun lawT
  have e1 : (parseB lawT).2 = (0, 0) := by rw [parseB_eq]; kernel_rfl
  rw [e1, parseB_eq] at h1
  change Fun _ _ _ (· = .tup [byD bL, _, _]) at h1
  generalize bL = b at *
  simp only [byD] at h1
  unfold byCells at *
  (refine Fun.of_bodyW Tryz.func96 rfl (by simp) fun Γ hn => ?_); simp only [entry, List.zipIdx_cons, List.zipIdx_nil, List.map_cons, List.map_nil, Nat.zero_add, Tryz.ntmps96]
  repeat' (first
    | (refine H_cons ?_; simp [lawT])
    | (refine H_nil ?_; simp [lawT])
    | (refine V_sseq ?_; simp [lawT])
    | (refine V_ret ?_; simp only [RunK])
    | (refine CallP.fun_ (h1) (by first | rfl | fail) (by first | assumption | (simp; done) | fail) (by first | (simp [lawT]; done) | (simp [lawT]; rfl) | fail) (by first | (simp; done) | fail) (fun d hd => ?_); subst hd; (try simp [lawT]))
    | fail)
  refine EndW.here ?_
  (refine EndOK.val (.inr rfl) ?_; simp [resD, oneOrTup, pureD, Tryz.results96])
theorem yes_fun (l : List Int) (hl : l.length ≤ 1000) : Fun Tryz.prog 50 [.u (ints l)] (· = .u (voU (yesL l))) := by
  unfold ints voU
  (refine Fun.of_bodyW Tryz.func50 rfl (by simp) fun Γ hn => ?_); simp only [entry, List.zipIdx_cons, List.zipIdx_nil, List.map_cons, List.map_nil, Nat.zero_add, Tryz.ntmps50]
  repeat' (first
    | (refine H_cons ?_; simp)
    | (refine H_nil ?_; simp)
    | (refine V_sseq ?_; simp)
    | (refine V_sblock ?_; simp)
    | fail)
  refine V_wk _ (Wk.own 3 49 4 (by decide) rfl) ?_
  simp [St.own]
  refine V_loopO (α := { i : Nat // i ≤ l.length }) [0] (fun i => [(3, .vec 0 i.1), (4, .u (.int .i64 i.1))]) (fun i => [(0, .vec 49 4 (voR (yesL (l.take i.1))))]) 1 (fun i => l.length - i.1) ⟨0, by omega⟩ ?_ ?_
  · exact (Wk.cut rfl (by simp [hn, St.lp]) (by simp [wkO, St.lp, getK_cons, getK, Ob.under, D.under, under_rowsD, under_entD, yesL, voR]) (by simp [wkU, St.lp, keepE, getK_cons, getK, D.under, yesL, voR]) (by simp [wkE, St.lp, keepE, getK_cons, getK, yesL, voR] <;> (try (intros; simp_all; done)) <;> (try (intros; omega)) <;> (try grind)))
  rintro ⟨i, hi⟩
  simp [St.lp, St.only, keepE, getK_cons, getK]
  rcases hx : l[i]? with _ | k
  · have hge : l.length ≤ i := by simpa using hx
    obtain rfl : i = l.length := by omega
    simp only [List.take_length]
    have hyl := yesL_len l
    repeat' (first
    | (refine H_cons ?_; simp [hx])
    | (refine H_nil ?_; simp [hx])
    | (refine V_sseq ?_; simp [hx])
    | (refine V_scond ?_; simp [hx])
    | (refine V_ret ?_; simp only [RunK])
    | (refine V_exit ?_; simp [RunK])
    | fail)
    (refine EndW.frzN 1 ?_; simp [frzN, frz1, frz_env, frz_obs, St.frz, St.frzS, frzS, fv, fzVec, fzMap, fzBox, frzObS, frz_entD, frz_rowsD, del, frz, frzOb, voR_frz, voR_all, voR_len, hyl])
    refine EndW.norm (EndW.here ?_)
    (refine EndOK.val (.inr rfl) ?_; simp [resD, oneOrTup, pureD, Tryz.results50, frz_obs, frz_env, norm_obs, norm_env, frz, frzOb, frzS, fv, fzVec, fzMap, fzBox, frzObS, frz_entD, frz_rowsD, normD, normU, norm1, normOb, voR_all, voR_len, hyl])
  · have hlt : i < l.length := (List.getElem?_eq_some_iff.1 hx).1
    have hst := yesL_snoc hx
    have hyl := yesL_len (l.take i)
    rw [List.length_take, Nat.min_eq_left (by omega)] at hyl
    generalize yesL (l.take i) = O at *
    have hlr := voR_lenR O
    have hvl := voR_len O
    have hsn := voR_snoc O ⟨i, k, true, 0⟩
    simp only at hsn
    repeat' (first
    | (refine H_cons ?_; simp [hx, hvl, hyl, hlr, hsn])
    | (refine H_nil ?_; simp [hx, hvl, hyl, hlr, hsn])
    | (refine ⟨by omega, ?_⟩)
    | (refine V_sseq ?_; simp [hx, hvl, hyl, hlr, hsn])
    | (refine V_scond ?_; simp [hx, hvl, hyl, hlr, hsn])
    | (refine V_sregion ?_; simp [hx, hvl, hyl, hlr, hsn])
    | (refine V_skip ?_; simp only [RunK])
    | (refine ⟨?_, by omega⟩)
    | (intro hc <;> (try (exfalso; omega)))
    | fail)
    refine LoopW.next ⟨i + 1, by omega⟩ (by simp; omega) ?_
    exact (Wk.ren ((fun i => if i = 0 then 2 else i)) rfl (by first | (simp [hn]; done) | (intro i hi; rw [hn] at hi; constructor <;> (try simp) <;> (try (intro _)) <;> omega)) (by simp [wkER, St.lp, keepE, getK_cons, getK, getK_del, getK_setOb, D.under, D.le, D.ren, hst, hyl, pure_voR, under_voR] <;> (try (intros; simp_all; done)) <;> (try omega)) (by simp [wkR, St.lp, getK_cons, getK, getK_del, getK_setOb, obR, leU, pureRow, pureRows, Ob.under, D.under, D.le, D.ren, hst, hyl, pure_voR, under_voR] <;> (try (intros; simp_all; done)) <;> (try omega)) (by simp [hst, hyl, pure_voR, under_voR]))
theorem intsSame_fun (l : List Int) (hl : l.length ≤ 1000000) : Fun Tryz.prog 106 [.u (ints l), .u (ints l)] (· = .u (.bool true)) := by
  unfold ints
  (refine Fun.of_bodyW Tryz.func106 rfl (by simp) fun Γ hn => ?_); simp only [entry, List.zipIdx_cons, List.zipIdx_nil, List.map_cons, List.map_nil, Nat.zero_add, Tryz.ntmps106]
  repeat' (first
    | (refine H_cons ?_; simp)
    | (refine H_nil ?_; simp)
    | (refine V_sseq ?_; simp)
    | (refine V_scond ?_; simp)
    | (refine V_sblock ?_; simp)
    | (refine V_skip ?_; simp only [RunK])
    | fail)
  refine V_loopF (α := { i : Nat // i ≤ l.length }) [0, 1] (fun i => [(5, .u (.int .i64 i.1))]) (fun i => l.length - i.1) ⟨0, by omega⟩ ?_ ?_
  · exact (Wk.cut rfl (by simp [hn, St.lp]) (by simp [wkO, St.lp, getK_cons, getK, Ob.under, D.under, under_rowsD, under_entD]) (by simp [wkU, St.lp, keepE, getK_cons, getK, D.under]) (by simp [wkE, St.lp, keepE, getK_cons, getK] <;> (try (intros; simp_all; done)) <;> (try (intros; omega)) <;> (try grind)))
  rintro ⟨i, hi⟩
  simp [St.lp, St.only, keepE, getK_cons, getK]
  rcases hx : l[i]? with _ | k
  · have hge : l.length ≤ i := by simpa using hx
    repeat' (first
    | (refine H_cons ?_; simp [hx])
    | (refine H_nil ?_; simp [hx])
    | (refine ⟨by omega, ?_⟩)
    | (refine V_sseq ?_; simp [hx])
    | (refine V_scond ?_; simp [hx])
    | (refine V_ret ?_; simp only [RunK])
    | (refine V_exit ?_; simp [RunK])
    | (intro hc <;> (try (exfalso; omega)))
    | fail)
    refine EndW.here ?_
    (refine EndOK.val (.inr rfl) ?_; simp [resD, oneOrTup, pureD, Tryz.results106])
  · have hlt : i < l.length := (List.getElem?_eq_some_iff.1 hx).1
    repeat' (first
    | (refine H_cons ?_; simp [hx])
    | (refine HD4_val rfl ?_; simp [hx])
    | (refine H_nil ?_; simp [hx])
    | (refine ⟨by omega, ?_⟩)
    | (refine V_sseq ?_; simp [hx])
    | (refine V_scond ?_; simp [hx])
    | (refine HD4_nil (hC _ (by kernel_rfl)) (hk _ ?_); clear hC hk C k; simp only [RunK])
    | (refine V_drawX rfl (by kernel_rfl) (by first | (simp [hn]; done) | (simp [hn]; omega) | fail) fun C k hC hk => ?_; simp [hx])
    | (refine V_sregion ?_; simp [hx])
    | (refine V_skip ?_; simp only [RunK])
    | (refine ⟨?_, by omega⟩)
    | (intro hc <;> (try (exfalso; omega)))
    | fail)
    refine LoopW.next ⟨i + 1, by omega⟩ (by simp; omega) ?_
    exact (Wk.cut rfl (by simp [hn, St.lp]) (by simp [wkO, St.lp, getK_cons, getK, Ob.under, D.under, under_rowsD, under_entD]) (by simp [wkU, St.lp, keepE, getK_cons, getK, D.under]) (by simp [wkE, St.lp, keepE, getK_cons, getK] <;> (try (intros; simp_all; done)) <;> (try (intros; omega)) <;> (try grind)))
theorem clSame_fun (c : Cl) (h1 : c.jury.length ≤ 1000000) (h2 : c.again.length ≤ 1000000) : Fun Tryz.prog 48 [.u (clU c), .u (clU c)] (· = .u (.bool true)) := by
  have e1 := intsSame_fun c.jury h1
  have e2 := intsSame_fun c.again h2
  unfold ints at e1 e2
  unfold clU clCells
  (refine Fun.of_bodyW Tryz.func48 rfl (by simp) fun Γ hn => ?_); simp only [entry, List.zipIdx_cons, List.zipIdx_nil, List.map_cons, List.map_nil, Nat.zero_add, Tryz.ntmps48]
  repeat' (first
    | (refine H_cons ?_; simp)
    | (refine H_nil ?_; simp)
    | (refine V_sseq ?_; simp)
    | (refine V_ret ?_; simp only [RunK])
    | (refine CallP.fun_ (e1) (by first | rfl | fail) (by first | assumption | (simp; done) | fail) (by first | (simp; done) | (simp; rfl) | fail) (by first | (simp; done) | fail) (fun d hd => ?_); subst hd; (try simp))
    | (refine CallP.fun_ (e2) (by first | rfl | fail) (by first | assumption | (simp; done) | fail) (by first | (simp; done) | (simp; rfl) | fail) (by first | (simp; done) | fail) (fun d hd => ?_); subst hd; (try simp))
    | fail)
  refine EndW.here ?_
  (refine EndOK.val (.inr rfl) ?_; simp [resD, oneOrTup, pureD, Tryz.results48])

theorem yes_lent (l : List Int) (j nx : Nat) (hj : j < nx) (hl : l.length ≤ 1000) : RetX Tryz.prog 50 [.vec j l.length] [(j, .vec 3 1 (inR l))] nx
    (fun r o n => r = .val (.u (voU (yesL l))) ∧ o = [(j, .vec 3 1 (inR l))] ∧ n = nx) := by
  have hne := ne_facts hj
  have hil := inR_len l
  have hj1 : j < nx + 1 := by omega
  have hj2 : (j = nx + 1 + 1) = False := eq_false (by omega)
  (refine RetX.of_bodyW Tryz.func50 rfl (by simp) fun Γ hn hpan => ?_); simp only [entry, List.zipIdx_cons, List.zipIdx_nil, List.map_cons, List.map_nil, Nat.zero_add, Tryz.ntmps50]
  repeat' (first
    | (refine H_cons ?_; simp [hne])
    | (refine H_nil ?_; simp [hne])
    | (refine V_sseq ?_; simp [hne])
    | (refine V_sblock ?_; simp [hne])
    | fail)
  refine V_wk _ (Wk.own 3 49 4 (by decide) rfl) ?_
  simp [St.own, hne]
  refine V_loopO (α := { i : Nat // i ≤ l.length }) [0] (fun i => [(3, .vec nx i.1), (4, .u (.int .i64 i.1))]) (fun i => [(nx, .vec 49 4 (voR (yesL (l.take i.1)))), (j, .vec 3 1 (inR l))]) (nx + 1) (fun i => l.length - i.1) ⟨0, by omega⟩ ?_ ?_
  · exact (Wk.cut rfl (by simp [hn, St.lp]) (by simp [wkO, St.lp, getK_cons, getK, Ob.under, D.under, under_rowsD, under_entD, yesL, voR, hne, hj1, under_inR]) (by simp [wkU, St.lp, keepE, getK_cons, getK, D.under, yesL, voR, hne, hj1, under_inR]) (by simp [wkE, St.lp, keepE, getK_cons, getK, yesL, voR, hne, hj1, under_inR] <;> (try (intros; simp_all; done)) <;> (try (intros; omega)) <;> (try grind)))
  rintro ⟨i, hi⟩
  simp [St.lp, St.only, keepE, getK_cons, getK]
  rcases hx : l[i]? with _ | k
  · have hge : l.length ≤ i := by simpa using hx
    obtain rfl : i = l.length := by omega
    simp only [List.take_length]
    have hyl := yesL_len l
    have hvl := voR_len (yesL l)
    repeat' (first
    | (refine H_cons ?_; simp [hx, hne, hvl, hyl])
    | (refine H_nil ?_; simp [hx, hne, hvl, hyl])
    | (refine ⟨by omega, ?_⟩)
    | (refine V_sseq ?_; simp [hx, hne, hvl, hyl])
    | (refine V_scond ?_; simp [hx, hne, hvl, hyl])
    | (refine V_ret ?_; simp only [RunK])
    | (refine V_exit ?_; simp [RunK])
    | fail)
    (refine EndW.frzN 1 ?_; simp [frzN, frz1, frz_env, frz_obs, St.frz, St.frzS, frzS, fv, fzVec, fzMap, fzBox, frzObS, frz_entD, frz_rowsD, del, frz, frzOb, voR_frz, inR_frz, voR_all, voR_len, hyl, hne])
    (refine EndW.wk { n := _, env := [(2, .u (voU (yesL l)))], obs := [(j, .vec 3 1 (inR l))], next := nx } (Wk.cut rfl (by simp [hn]) (by simp [wkO, getK_cons, getK, getK_append, getK_del, Ob.under, D.under, under_rowsD, under_entD, hne, hj, hj1, under_inR, voU]) (by simp [wkU, keepE, getK_cons, getK, D.under, hne, hj, hj1, under_inR, voU]) (by simp [wkE, keepE, getK_cons, getK, hne, hj, hj1, under_inR, voU])) (EndW.here ?_); (first | (refine EndOK.fin (.inr rfl) ?_) | (refine EndOK.fin (.inl rfl) ?_)); simp [resD, oneOrTup, Tryz.results50]; refine FinOK.here (by simp) ?_; try simp)
  · have hlt : i < l.length := (List.getElem?_eq_some_iff.1 hx).1
    have hst := yesL_snoc hx
    have hyl := yesL_len (l.take i)
    rw [List.length_take, Nat.min_eq_left (by omega)] at hyl
    have hri : (inR l)[i]? = some [.u (.int .i64 k)] := by simp [inR, hx]
    have hrg : ∀ h, (inR l)[i]'h = [.u (.int .i64 k)] := fun h => (List.getElem?_eq_some_iff.1 hri).2
    generalize yesL (l.take i) = O at *
    have hlr := voR_lenR O
    have hvl := voR_len O
    have hsn := voR_snoc O ⟨i, k, true, 0⟩
    simp only at hsn
    repeat' (first
    | (refine H_cons ?_; simp [hlt, hri, hrg, hil, hvl, hyl, hlr, hsn, hne])
    | (refine H_nil ?_; simp [hlt, hri, hrg, hil, hvl, hyl, hlr, hsn, hne])
    | (refine ⟨by omega, ?_⟩)
    | (refine V_sseq ?_; simp [hlt, hri, hrg, hil, hvl, hyl, hlr, hsn, hne])
    | (refine V_scond ?_; simp [hlt, hri, hrg, hil, hvl, hyl, hlr, hsn, hne])
    | (refine V_sregion ?_; simp [hlt, hri, hrg, hil, hvl, hyl, hlr, hsn, hne])
    | (refine V_skip ?_; simp only [RunK])
    | fail)
    refine LoopW.next ⟨i + 1, by omega⟩ (by simp; omega) ?_
    exact (Wk.ren ((fun i => if i = nx then nx + 2 else i)) rfl (by first | (simp [hn]; done) | (intro i hi; rw [hn] at hi; constructor <;> (try simp) <;> (try (intro _)) <;> omega)) (by simp [wkER, St.lp, keepE, getK_cons, getK, getK_del, getK_setOb, D.under, D.le, D.ren, hst, hyl, pure_voR, under_voR, pure_inR, under_inR, hne, hj, hj1, hj2] <;> (try (intros; simp_all; done)) <;> (try omega)) (by simp [wkR, St.lp, getK_cons, getK, getK_del, getK_setOb, obR, leU, pureRow, pureRows, Ob.under, D.under, D.le, D.ren, hst, hyl, pure_voR, under_voR, pure_inR, under_inR, hne, hj, hj1, hj2] <;> (try (intros; simp_all; done)) <;> (try omega)) (by simp [hst, hyl, pure_voR, under_voR, pure_inR, under_inR, hne, hj, hj1, hj2]))

theorem numbers_ask : Fun Tryz.prog 177 [.u (.agg (enCells askE))] (· = .u (.bool true)) := by
  have h4 := eday_fun 18
  rw [show dayB 18 = true from rfl] at h4
  simp only [enCells, askE, List.map_nil]
  (refine Fun.of_bodyW Tryz.func177 rfl (by simp) fun Γ hn => ?_); simp only [entry, List.zipIdx_cons, List.zipIdx_nil, List.map_cons, List.map_nil, Nat.zero_add, Tryz.ntmps177]
  repeat' (first
    | (refine H_cons ?_; simp)
    | (refine H_nil ?_; simp)
    | (refine V_sseq ?_; simp)
    | (refine V_scond ?_; simp)
    | (refine V_sblock ?_; simp)
    | (refine V_ret ?_; simp only [RunK])
    | (refine CallP.fun_ (h4) (by first | rfl | fail) (by first | assumption | (simp; done) | fail) (by first | (simp; done) | (simp; rfl) | fail) (by first | (simp; done) | fail) (fun d hd => ?_); subst hd; (try simp))
    | fail)
  refine EndW.here ?_
  (refine EndOK.val (.inr rfl) ?_; simp [resD, oneOrTup, pureD, Tryz.results177])
theorem eright_ask : Fun Tryz.prog 101 [.u (.agg (enCells askE))] (· = .u (.bool true)) := by
  have f1 := key_fun 5
  have f2 := eday_fun 20
  have f3 := plain_fun askE (by decide) (by decide)
  have f4 := asc_fun [] (by simp)
  have f5 := contM_fun [5, 6, 7] 10 (by simp)
  have f8 := numbers_ask
  have f9 := mark_fun 0
  have fa := key_fun 0
  rw [show keyB 5 = true from rfl] at f1
  rw [show dayB 20 = true from rfl] at f2
  rw [plain_ask] at f3
  rw [show ascB [] = true from rfl] at f4
  rw [show decide ((10 : Int) ∈ [5, 6, 7]) = false from rfl] at f5
  rw [show markB 0 = true from rfl] at f9
  rw [show keyB 0 = true from rfl] at fa
  simp only [enCells, askE, List.map_nil, ints, List.map_cons] at *
  (refine Fun.of_bodyW Tryz.func101 rfl (by simp) fun Γ hn => ?_); simp only [entry, List.zipIdx_cons, List.zipIdx_nil, List.map_cons, List.map_nil, Nat.zero_add, Tryz.ntmps101]
  repeat' (first
    | (refine H_cons ?_; simp)
    | (refine H_nil ?_; simp)
    | (refine V_sseq ?_; simp)
    | (refine V_scond ?_; simp)
    | (refine V_ret ?_; simp only [RunK])
    | (refine V_skip ?_; simp only [RunK])
    | (refine CallP.fun_ (f1) (by first | rfl | fail) (by first | assumption | (simp; done) | fail) (by first | (simp; done) | (simp; rfl) | fail) (by first | (simp; done) | fail) (fun d hd => ?_); subst hd; (try simp))
    | (refine CallP.fun_ (f2) (by first | rfl | fail) (by first | assumption | (simp; done) | fail) (by first | (simp; done) | (simp; rfl) | fail) (by first | (simp; done) | fail) (fun d hd => ?_); subst hd; (try simp))
    | (refine CallP.fun_ (f3) (by first | rfl | fail) (by first | assumption | (simp; done) | fail) (by first | (simp; done) | (simp; rfl) | fail) (by first | (simp; done) | fail) (fun d hd => ?_); subst hd; (try simp))
    | (refine CallP.fun_ (f4) (by first | rfl | fail) (by first | assumption | (simp; done) | fail) (by first | (simp; done) | (simp; rfl) | fail) (by first | (simp; done) | fail) (fun d hd => ?_); subst hd; (try simp))
    | (refine CallP.fun_ (f5) (by first | rfl | fail) (by first | assumption | (simp; done) | fail) (by first | (simp; done) | (simp; rfl) | fail) (by first | (simp; done) | fail) (fun d hd => ?_); subst hd; (try simp))
    | (refine CallP.fun_ (f8) (by first | rfl | fail) (by first | assumption | (simp; done) | fail) (by first | (simp; done) | (simp; rfl) | fail) (by first | (simp; done) | fail) (fun d hd => ?_); subst hd; (try simp))
    | (refine CallP.fun_ (f9) (by first | rfl | fail) (by first | assumption | (simp; done) | fail) (by first | (simp; done) | (simp; rfl) | fail) (by first | (simp; done) | fail) (fun d hd => ?_); subst hd; (try simp))
    | (refine CallP.fun_ (fa) (by first | rfl | fail) (by first | assumption | (simp; done) | fail) (by first | (simp; done) | (simp; rfl) | fail) (by first | (simp; done) | fail) (fun d hd => ?_); subst hd; (try simp))
    | fail)
  refine EndW.here ?_
  (refine EndOK.val (.inr rfl) ?_; simp [resD, oneOrTup, pureD, Tryz.results101])
theorem tell_ask : Fun Tryz.prog 41 [.u (.agg (enCells askE)), .u (.int .i64 9), .u (ints [1, 2, 3])] (· = .tup [.u (clU c0), .u (.int .i64 0)]) := by
  have f1 := eright_ask
  have f2 := clone_fun [1, 2, 3] (by simp)
  simp only [enCells, askE, List.map_nil, ints, List.map_cons, clU, clCells, c0] at *
  (refine Fun.of_bodyW Tryz.func41 rfl (by simp) fun Γ hn => ?_); simp only [entry, List.zipIdx_cons, List.zipIdx_nil, List.map_cons, List.map_nil, Nat.zero_add, Tryz.ntmps41]
  repeat' (first
    | (refine H_cons ?_; simp)
    | (refine HD4_val rfl ?_; simp)
    | (refine HD4_chg rfl ?_; simp)
    | (refine H_nil ?_; simp)
    | (refine V_sseq ?_; simp)
    | (refine V_scond ?_; simp)
    | (refine HD4_nil (hC _ (by kernel_rfl)) (hk _ ?_); clear hC hk C k; simp only [RunK])
    | (refine V_drawX rfl (by kernel_rfl) (by first | (simp [hn]; done) | (simp [hn]; omega) | fail) fun C k hC hk => ?_; simp)
    | (refine V_ret ?_; simp only [RunK])
    | (refine V_skip ?_; simp only [RunK])
    | (refine CallP.fun_ (f1) (by first | rfl | fail) (by first | assumption | (simp; done) | fail) (by first | (simp; done) | (simp; rfl) | fail) (by first | (simp; done) | fail) (fun d hd => ?_); subst hd; (try simp))
    | (refine CallV.fun_ (f2) (by first | rfl | fail) (by first | assumption | (simp; done) | fail) (by first | (simp; done) | (simp; rfl) | fail) (by first | (simp; done) | fail) ?_ <;> (try simp))
    | fail)
  refine EndW.norm (EndW.here ?_)
  (refine EndOK.val (.inr rfl) ?_; simp [resD, oneOrTup, pureD, Tryz.results41, frz_obs, frz_env, norm_obs, norm_env, frz, frzOb, frzS, fv, fzVec, fzMap, fzBox, frzObS, frz_entD, frz_rowsD, normD, normU, norm1, normOb])
theorem small36_fun : Fun Tryz.prog 37 [] (· = .u (.bool true)) := by
  have l0 := laws_fun
  have t0 := tell_ask
  have p0 := prove_fun c0 (by decide) (by decide) (by decide)
  have y0 := yes_fun [1, 3] (by decide)
  have s1 := step_fun c1 bL 250 (yesL [1, 3]) 21 (by decide) (by decide) (by decide)
  have s2 := step_fun c2 bL 250 (yesL [1, 3]) 22 (by decide) (by decide) (by decide)
  have s3 := step_fun c2 bL 250 (yesL [1, 3]) 23 (by decide) (by decide) (by decide)
  have s4 := pay_fun c3 250 (by decide) (by decide)
  have s5 := pay_fun c4 250 (by decide) (by decide)
  have s6 := step_fun c0 bL 250 (yesL [1, 3]) 26 (by decide) (by decide) (by decide)
  have s7 := step_fun c0 bL 250 (yesL [1, 3]) 27 (by decide) (by decide) (by decide)
  have s8 := appeal_fun c5 bL [4, 6] 34 (by decide) (by decide) (by decide)
  have s9 := appeal_fun c5 bL [4, 6] 35 (by decide) (by decide) (by decide)
  rw [mp] at p0
  rw [m1] at s1
  rw [m2] at s2
  rw [m3] at s3
  rw [m4] at s4
  rw [m5] at s5
  rw [m6] at s6
  rw [m7] at s7
  rw [m8] at s8
  rw [m9] at s9
  have ey : voU (yesL [1, 3]) = .sl [[.int .i64 0, .int .i64 1, .bool true, .int .i64 0], [.int .i64 1, .int .i64 3, .bool true, .int .i64 0]] := rfl
  rw [ey] at y0 s1 s2 s3 s6 s7
  generalize bL = b at *
  simp only [enCells, askE, List.map_nil, ints, List.map_cons, clU, clCells, c0, c1, c2, c3, c4, c5, c6] at *
  unfold byCells at *
  (refine Fun.of_bodyW Tryz.func37 rfl (by simp) fun Γ hn => ?_); simp only [entry, List.zipIdx_cons, List.zipIdx_nil, List.map_cons, List.map_nil, Nat.zero_add, Tryz.ntmps37]
  have hy : ∀ j nx, j < nx → RetX Tryz.prog 50 [.vec j 2] [(j, .vec 3 1 [[.u (.int .i64 1)], [.u (.int .i64 3)]])] nx (fun r o n => r = .val (.u (.sl [[.int .i64 0, .int .i64 1, .bool true, .int .i64 0], [.int .i64 1, .int .i64 3, .bool true, .int .i64 0]])) ∧ o = [(j, .vec 3 1 [[.u (.int .i64 1)], [.u (.int .i64 3)]])] ∧ n = nx) := fun j nx h => by
    have := yes_lent [1, 3] j nx h (by decide)
    rw [ey] at this
    exact this
  repeat' (first
    | (refine H_cons ?_; simp)
    | (refine H_nil ?_; simp)
    | (refine V_sseq ?_; simp)
    | (refine CallP.fun_ (l0) (by first | rfl | fail) (by first | assumption | (simp; done) | fail) (by first | (simp; done) | (simp; rfl) | fail) (by first | (simp; done) | fail) (fun d hd => ?_); subst hd; (try simp))
    | fail)
  refine CallP_wk (Wk.norm _) ?_
  simp [St.norm, normD, normU, norm1, normOb]
  repeat' (first
    | (refine HD4_okL (fun nx (h : 6 ≤ nx) => hy 5 nx (by omega)) (by first | (simp [getK_cons, getK, getK_append, getK_del, getK_setOb, applyW, del]; done) | fail) rfl (by first | (simp []; done) | fail) (by rfl) (by first | assumption | (simp; done) | fail) (by rfl) (by first | (simp [D.under, Ob.under, under_rowsD, under_entD]; done) | (simp [D.under, Ob.under, under_rowsD, under_entD]; omega) | fail) (by simp) ?_; (try simp))
    | (refine HD4_okL (fun nx (h : 8 ≤ nx) => hy 7 nx (by omega)) (by first | (simp [getK_cons, getK, getK_append, getK_del, getK_setOb, applyW, del]; done) | fail) rfl (by first | (simp []; done) | fail) (by rfl) (by first | assumption | (simp; done) | fail) (by rfl) (by first | (simp [D.under, Ob.under, under_rowsD, under_entD]; done) | (simp [D.under, Ob.under, under_rowsD, under_entD]; omega) | fail) (by simp) ?_; (try simp))
    | (refine HD4_okL (fun nx (h : 10 ≤ nx) => hy 9 nx (by omega)) (by first | (simp [getK_cons, getK, getK_append, getK_del, getK_setOb, applyW, del]; done) | fail) rfl (by first | (simp []; done) | fail) (by rfl) (by first | assumption | (simp; done) | fail) (by rfl) (by first | (simp [D.under, Ob.under, under_rowsD, under_entD]; done) | (simp [D.under, Ob.under, under_rowsD, under_entD]; omega) | fail) (by simp) ?_; (try simp))
    | (refine HD4_okL (fun nx (h : 14 ≤ nx) => hy 13 nx (by omega)) (by first | (simp [getK_cons, getK, getK_append, getK_del, getK_setOb, applyW, del]; done) | fail) rfl (by first | (simp []; done) | fail) (by rfl) (by first | assumption | (simp; done) | fail) (by rfl) (by first | (simp [D.under, Ob.under, under_rowsD, under_entD]; done) | (simp [D.under, Ob.under, under_rowsD, under_entD]; omega) | fail) (by simp) ?_; (try simp))
    | (refine HD4_okL (fun nx (h : 16 ≤ nx) => hy 15 nx (by omega)) (by first | (simp [getK_cons, getK, getK_append, getK_del, getK_setOb, applyW, del]; done) | fail) rfl (by first | (simp []; done) | fail) (by rfl) (by first | assumption | (simp; done) | fail) (by rfl) (by first | (simp [D.under, Ob.under, under_rowsD, under_entD]; done) | (simp [D.under, Ob.under, under_rowsD, under_entD]; omega) | fail) (by simp) ?_; (try simp))
    | (refine H_cons ?_; simp)
    | (refine HD4_val rfl ?_; simp)
    | (refine HD4_chg rfl ?_; simp)
    | (refine H_nil ?_; simp)
    | (refine V_sseq ?_; simp)
    | (refine HD4_nil (hC _ (by kernel_rfl)) (hk _ ?_); clear hC hk C k; simp only [RunK])
    | (refine V_drawX rfl (by kernel_rfl) (by first | (simp [hn]; done) | (simp [hn]; omega) | fail) fun C k hC hk => ?_; simp)
    | (refine V_ret ?_; simp only [RunK])
    | (refine CallP.fun_ (t0) (by first | rfl | fail) (by first | assumption | (simp; done) | fail) (by first | (simp; done) | (simp; rfl) | fail) (by first | (simp; done) | fail) (fun d hd => ?_); subst hd; (try simp))
    | (refine CallP.fun_ (p0) (by first | rfl | fail) (by first | assumption | (simp; done) | fail) (by first | (simp; done) | (simp; rfl) | fail) (by first | (simp; done) | fail) (fun d hd => ?_); subst hd; (try simp))
    | (refine CallV.fun_ (s1) (by first | rfl | fail) (by first | assumption | (simp; done) | fail) (by first | (simp; done) | (simp; rfl) | fail) (by first | (simp; done) | fail) ?_ <;> (try simp))
    | (refine CallV.fun_ (s2) (by first | rfl | fail) (by first | assumption | (simp; done) | fail) (by first | (simp; done) | (simp; rfl) | fail) (by first | (simp; done) | fail) ?_ <;> (try simp))
    | (refine CallV.fun_ (s3) (by first | rfl | fail) (by first | assumption | (simp; done) | fail) (by first | (simp; done) | (simp; rfl) | fail) (by first | (simp; done) | fail) ?_ <;> (try simp))
    | (refine CallP.fun_ (s4) (by first | rfl | fail) (by first | assumption | (simp; done) | fail) (by first | (simp; done) | (simp; rfl) | fail) (by first | (simp; done) | fail) (fun d hd => ?_); subst hd; (try simp))
    | (refine CallP.fun_ (s5) (by first | rfl | fail) (by first | assumption | (simp; done) | fail) (by first | (simp; done) | (simp; rfl) | fail) (by first | (simp; done) | fail) (fun d hd => ?_); subst hd; (try simp))
    | (refine CallV.fun_ (s6) (by first | rfl | fail) (by first | assumption | (simp; done) | fail) (by first | (simp; done) | (simp; rfl) | fail) (by first | (simp; done) | fail) ?_ <;> (try simp))
    | (refine CallV.fun_ (s7) (by first | rfl | fail) (by first | assumption | (simp; done) | fail) (by first | (simp; done) | (simp; rfl) | fail) (by first | (simp; done) | fail) ?_ <;> (try simp))
    | (refine CallP.fun_ (s8) (by first | rfl | fail) (by first | assumption | (simp; done) | fail) (by first | (simp; done) | (simp; rfl) | fail) (by first | (simp; done) | fail) (fun d hd => ?_); subst hd; (try simp))
    | (refine CallP.fun_ (s9) (by first | rfl | fail) (by first | assumption | (simp; done) | fail) (by first | (simp; done) | (simp; rfl) | fail) (by first | (simp; done) | fail) (fun d hd => ?_); subst hd; (try simp))
    | fail)
  refine EndW.here ?_
  (refine EndOK.val (.inr rfl) ?_; simp [resD, oneOrTup, pureD, Tryz.results37])
theorem small25_ex (b : By) : Fun Tryz.prog 38 [.u (.agg (byCells b))] (fun d => ∃ B : Bool, d = .u (.bool B)) := by
  have h1 := fewLets_fun b.lets 3 16 (by omega) (by omega) (by omega) (by omega)
  have h2 := fewExp_fun b.due 16 (by omega) (by omega)
  have h3 := fewExp_fun b.fine 16 (by omega) (by omega)
  have h4 := fewExp_fun b.pay 16 (by omega) (by omega)
  have h5 := fewExp_fun b.cover 16 (by omega) (by omega)
  have h6 := fewExp_fun b.hold 16 (by omega) (by omega)
  generalize fewL b.lets 3 16 = x1 at *
  generalize fewE b.due 16 = x2 at *
  generalize fewE b.fine 16 = x3 at *
  generalize fewE b.pay 16 = x4 at *
  generalize fewE b.cover 16 = x5 at *
  generalize fewE b.hold 16 = x6 at *
  unfold byCells
  unfold letsU at h1
  unfold eagg at h2 h3 h4 h5 h6
  (refine Fun.of_bodyW Tryz.func38 rfl (by simp) fun Γ hn => ?_); simp only [entry, List.zipIdx_cons, List.zipIdx_nil, List.map_cons, List.map_nil, Nat.zero_add, Tryz.ntmps38]
  repeat' (first
    | (refine H_cons ?_; simp)
    | (refine H_nil ?_; simp)
    | (refine V_sseq ?_; simp)
    | (refine V_ret ?_; simp only [RunK])
    | (refine ⟨fun hc => ?_, fun hc => ?_⟩ <;> (try (exfalso; omega)))
    | (refine CallP.fun_ (h1) (by first | rfl | fail) (by first | assumption | (simp; done) | fail) (by first | (simp; done) | (simp; rfl) | fail) (by first | (simp; done) | fail) (fun d hd => ?_); subst hd; (try simp))
    | (refine CallP.fun_ (h2) (by first | rfl | fail) (by first | assumption | (simp; done) | fail) (by first | (simp; done) | (simp; rfl) | fail) (by first | (simp; done) | fail) (fun d hd => ?_); subst hd; (try simp))
    | (refine CallP.fun_ (h3) (by first | rfl | fail) (by first | assumption | (simp; done) | fail) (by first | (simp; done) | (simp; rfl) | fail) (by first | (simp; done) | fail) (fun d hd => ?_); subst hd; (try simp))
    | (refine CallP.fun_ (h4) (by first | rfl | fail) (by first | assumption | (simp; done) | fail) (by first | (simp; done) | (simp; rfl) | fail) (by first | (simp; done) | fail) (fun d hd => ?_); subst hd; (try simp))
    | (refine CallP.fun_ (h5) (by first | rfl | fail) (by first | assumption | (simp; done) | fail) (by first | (simp; done) | (simp; rfl) | fail) (by first | (simp; done) | fail) (fun d hd => ?_); subst hd; (try simp))
    | (refine CallP.fun_ (h6) (by first | rfl | fail) (by first | assumption | (simp; done) | fail) (by first | (simp; done) | (simp; rfl) | fail) (by first | (simp; done) | fail) (fun d hd => ?_); subst hd; (try simp))
    | fail)
  all_goals
    refine EndW.here ?_
    (refine EndOK.val (.inr rfl) ?_; simp [resD, oneOrTup, pureD, Tryz.results38])
theorem few36_ex (b : By) (c : Cl) (l : List Vo) : Fun Tryz.prog 47 [.u (.agg (byCells b)), .u (clU c), .u (voU l)] (fun d => ∃ B : Bool, d = .u (.bool B) ∧ (B = true → c.jury.length ≤ 70 ∧ c.again.length ≤ 70 ∧ l.length ≤ 60)) := by
  have h1 := small25_ex b
  unfold clU clCells voU byCells at *
  by_cases c1 : (c.jury.length : Int) ≤ 70
  · by_cases c2 : (c.again.length : Int) ≤ 70
    · by_cases c3 : (l.length : Int) ≤ 60
      · (refine Fun.of_bodyW Tryz.func47 rfl (by simp) fun Γ hn => ?_); simp only [entry, List.zipIdx_cons, List.zipIdx_nil, List.map_cons, List.map_nil, Nat.zero_add, Tryz.ntmps47]
        repeat' (first
    | (refine CallP.fun_ (h1) (by first | rfl | fail) (by first | assumption | (simp; done) | fail) (by first | (simp; done) | (simp; rfl) | fail) (by first | (simp; done) | fail) (fun d hd => ?_); obtain ⟨br, rfl⟩ := hd; (try simp))
    | (refine H_cons ?_; simp [c1, c2, c3])
    | (refine H_nil ?_; simp [c1, c2, c3])
    | (refine V_sseq ?_; simp [c1, c2, c3])
    | (refine V_ret ?_; simp only [RunK])
    | (refine ⟨fun hc => ?_, fun hc => ?_⟩ <;> (try (exfalso; omega)))
    | fail)
        all_goals
          refine EndW.here ?_
          (refine EndOK.val (.inr rfl) ?_; simp [resD, oneOrTup, pureD, Tryz.results47])
        all_goals omega
      · (refine Fun.of_bodyW Tryz.func47 rfl (by simp) fun Γ hn => ?_); simp only [entry, List.zipIdx_cons, List.zipIdx_nil, List.map_cons, List.map_nil, Nat.zero_add, Tryz.ntmps47]
        repeat' (first
    | (refine CallP.fun_ (h1) (by first | rfl | fail) (by first | assumption | (simp; done) | fail) (by first | (simp; done) | (simp; rfl) | fail) (by first | (simp; done) | fail) (fun d hd => ?_); obtain ⟨br, rfl⟩ := hd; (try simp))
    | (refine H_cons ?_; simp [c1, c2, c3])
    | (refine H_nil ?_; simp [c1, c2, c3])
    | (refine V_sseq ?_; simp [c1, c2, c3])
    | (refine V_ret ?_; simp only [RunK])
    | (refine ⟨fun hc => ?_, fun hc => ?_⟩ <;> (try (exfalso; omega)))
    | fail)
        all_goals
          refine EndW.here ?_
          (refine EndOK.val (.inr rfl) ?_; simp [resD, oneOrTup, pureD, Tryz.results47])
    · (refine Fun.of_bodyW Tryz.func47 rfl (by simp) fun Γ hn => ?_); simp only [entry, List.zipIdx_cons, List.zipIdx_nil, List.map_cons, List.map_nil, Nat.zero_add, Tryz.ntmps47]
      repeat' (first
    | (refine CallP.fun_ (h1) (by first | rfl | fail) (by first | assumption | (simp; done) | fail) (by first | (simp; done) | (simp; rfl) | fail) (by first | (simp; done) | fail) (fun d hd => ?_); obtain ⟨br, rfl⟩ := hd; (try simp))
    | (refine H_cons ?_; simp [c1, c2])
    | (refine H_nil ?_; simp [c1, c2])
    | (refine V_sseq ?_; simp [c1, c2])
    | (refine V_ret ?_; simp only [RunK])
    | (refine ⟨fun hc => ?_, fun hc => ?_⟩ <;> (try (exfalso; omega)))
    | fail)
      all_goals
        refine EndW.here ?_
        (refine EndOK.val (.inr rfl) ?_; simp [resD, oneOrTup, pureD, Tryz.results47])
  · (refine Fun.of_bodyW Tryz.func47 rfl (by simp) fun Γ hn => ?_); simp only [entry, List.zipIdx_cons, List.zipIdx_nil, List.map_cons, List.map_nil, Nat.zero_add, Tryz.ntmps47]
    repeat' (first
    | (refine CallP.fun_ (h1) (by first | rfl | fail) (by first | assumption | (simp; done) | fail) (by first | (simp; done) | (simp; rfl) | fail) (by first | (simp; done) | fail) (fun d hd => ?_); obtain ⟨br, rfl⟩ := hd; (try simp))
    | (refine H_cons ?_; simp [c1])
    | (refine H_nil ?_; simp [c1])
    | (refine V_sseq ?_; simp [c1])
    | (refine V_ret ?_; simp only [RunK])
    | (refine ⟨fun hc => ?_, fun hc => ?_⟩ <;> (try (exfalso; omega)))
    | fail)
    all_goals
      refine EndW.here ?_
      (refine EndOK.val (.inr rfl) ?_; simp [resD, oneOrTup, pureD, Tryz.results47])

theorem voices_law (c : Cl) (b : By) (cover : Int) (l : List Vo) (day : Int) : Fun Tryz.prog 9 [.u (clU c), .u (.agg (byCells b)), .u (.int .i64 cover), .u (voU l), .u (.int .i64 day)] (· = .u (.bool true)) := by
  have hs := small36_fun
  have hf := few36_ex b c l
  by_cases k : (c.jury.length : Int) ≤ 12 ∧ (c.again.length : Int) ≤ 12
  case neg =>
    unfold clU clCells byCells voU at *
    by_cases k1 : (c.jury.length : Int) ≤ 12
    · have k2 : ¬ (c.again.length : Int) ≤ 12 := fun h => k ⟨k1, h⟩
      (refine Fun.of_bodyW Tryz.func9 rfl (by simp) fun Γ hn => ?_); simp only [entry, List.zipIdx_cons, List.zipIdx_nil, List.map_cons, List.map_nil, Nat.zero_add, Tryz.ntmps9]
      repeat' (first
    | (refine CallP.fun_ (hf) (by first | rfl | fail) (by first | assumption | (simp; done) | fail) (by first | (simp; done) | (simp; rfl) | fail) (by first | (simp; done) | fail) (fun d hd => ?_); obtain ⟨br, rfl, hbr⟩ := hd; cases br <;> (try simp))
    | (refine H_cons ?_; simp [k1, k2])
    | (refine H_nil ?_; simp [k1, k2])
    | (refine V_sseq ?_; simp [k1, k2])
    | (refine V_scond ?_; simp [k1, k2])
    | (refine V_ret ?_; simp only [RunK])
    | (refine ⟨?_, by omega⟩)
    | (intro hc <;> (try (exfalso; omega)))
    | (refine CallP.fun_ (hs) (by first | rfl | fail) (by first | assumption | (simp; done) | fail) (by first | (simp [k1, k2]; done) | (simp [k1, k2]; rfl) | fail) (by first | (simp; done) | fail) (fun d hd => ?_); subst hd; (try simp [k1, k2]))
    | fail)
      all_goals
        refine EndW.here ?_
        (refine EndOK.val (.inr rfl) ?_; simp [resD, oneOrTup, pureD, Tryz.results9])
    · (refine Fun.of_bodyW Tryz.func9 rfl (by simp) fun Γ hn => ?_); simp only [entry, List.zipIdx_cons, List.zipIdx_nil, List.map_cons, List.map_nil, Nat.zero_add, Tryz.ntmps9]
      repeat' (first
    | (refine CallP.fun_ (hf) (by first | rfl | fail) (by first | assumption | (simp; done) | fail) (by first | (simp; done) | (simp; rfl) | fail) (by first | (simp; done) | fail) (fun d hd => ?_); obtain ⟨br, rfl, hbr⟩ := hd; cases br <;> (try simp))
    | (refine H_cons ?_; simp [k1])
    | (refine H_nil ?_; simp [k1])
    | (refine V_sseq ?_; simp [k1])
    | (refine V_scond ?_; simp [k1])
    | (refine V_ret ?_; simp only [RunK])
    | (intro hc <;> (try (exfalso; omega)))
    | (refine CallP.fun_ (hs) (by first | rfl | fail) (by first | assumption | (simp; done) | fail) (by first | (simp [k1]; done) | (simp [k1]; rfl) | fail) (by first | (simp; done) | fail) (fun d hd => ?_); subst hd; (try simp [k1]))
    | fail)
      all_goals
        refine EndW.here ?_
        (refine EndOK.val (.inr rfl) ?_; simp [resD, oneOrTup, pureD, Tryz.results9])
  obtain ⟨k1, k2⟩ := k
  have hstep := fun (v : List Vo) (h : v.length ≤ 1000000) => step_fun c b cover v day (by omega) (by omega) h
  obtain ⟨dj, hD⟩ : ∃ dj, dj = deciders c := ⟨_, rfl⟩
  have hDl : dj.length ≤ 12 := by rw [hD]; unfold deciders; split <;> omega
  have hX1 := step_first c b cover l day
  have hX2 := step_back c b cover l day
  obtain ⟨hX3, hX4⟩ := stepM_keeps c b cover l day
  have hXs := clSame_fun (stepM c b cover l day) (by rw [hX3]; omega) (by rw [hX4]; omega)
  have hst0 := hstep l
  rw [← hD] at hX1 hX2
  have hst1 : (cntN dj [] l).length ≤ 1000000 → Fun Tryz.prog 43 [.u (clU c), .u (.agg (byCells b)), .u (.int .i64 cover), .u (voU (cntN dj [] l)), .u (.int .i64 day)] (· = .u (clU (stepM c b cover l day))) := fun h => by
    have := hstep (cntN dj [] l) h
    rwa [hX1] at this
  have hst2 : (cntN dj [] l).length ≤ 1000000 → Fun Tryz.prog 43 [.u (clU c), .u (.agg (byCells b)), .u (.int .i64 cover), .u (voU (cntN dj [] l).reverse), .u (.int .i64 day)] (· = .u (clU (stepM c b cover l day))) := fun h => by
    have := hstep (cntN dj [] l).reverse (by rw [List.length_reverse]; exact h)
    rwa [hX2] at this
  clear hX1 hX2 hX3 hX4 hstep
  generalize stepM c b cover l day = X at *
  unfold deciders at hD
  have hst0 : l.length ≤ 60 → _ := fun h : l.length ≤ 60 => hst0 (by omega)
  by_cases ca : c.again = []
  · have ca' : (0 < c.again.length) = False := by rw [ca]; simp
    rw [if_pos ca] at hD
    have hcl0 : clU c = .agg (clCells c) := rfl
    unfold voU at hf
    rw [hcl0] at hf ⊢
    unfold clCells byCells at hf
    show Fun _ _ [.u (.agg _), .u (.agg _), _, .u (.sl _), _] _
    unfold clCells byCells
    (refine Fun.of_bodyW Tryz.func9 rfl (by simp) fun Γ hn => ?_); simp only [entry, List.zipIdx_cons, List.zipIdx_nil, List.map_cons, List.map_nil, Nat.zero_add, Tryz.ntmps9]
    repeat' (first
    | (refine CallP.fun_ (hf) (by first | rfl | fail) (by first | assumption | (simp; done) | fail) (by first | (simp; done) | (simp; rfl) | fail) (by first | (simp; done) | fail) (fun d hd => ?_); obtain ⟨br, rfl, hbr⟩ := hd; cases br <;> (try simp))
    | (refine H_cons ?_; simp [k1, k2, ca'])
    | (refine H_nil ?_; simp [k1, k2, ca'])
    | (refine ⟨by omega, ?_⟩)
    | (refine V_sseq ?_; simp [k1, k2, ca'])
    | (refine V_scond ?_; simp [k1, k2, ca'])
    | (refine V_sblock ?_; simp [k1, k2, ca'])
    | (refine V_ret ?_; simp only [RunK])
    | (refine V_skip ?_; simp only [RunK])
    | (refine ⟨?_, by omega⟩)
    | (refine CallP.fun_ (hs) (by first | rfl | fail) (by first | assumption | (simp; done) | fail) (by first | (simp [k1, k2, ca']; done) | (simp [k1, k2, ca']; rfl) | fail) (by first | (simp; done) | fail) (fun d hd => ?_); subst hd; (try simp [k1, k2, ca']))
    | fail)
    · refine EndW.here ?_
      (refine EndOK.val (.inr rfl) ?_; simp [resD, oneOrTup, pureD, Tryz.results9])
    have hst0 := hst0 (hbr rfl).2.2
    refine V_wk _ (Wk.own 13 49 4 (by decide) rfl) ?_
    simp [St.own]
    have hl60 := (hbr rfl).2.2
    refine V_loopO (α := { i : Nat // i ≤ l.length }) [2, 3, 4, 5, 6, 11, 12] (fun i => [(13, .vec 2 (cntN dj [] (l.take i.1)).length), (14, .u (.int .i64 i.1))]) (fun i => [(0, .box ((clCells c).map .u)), (1, .box ((byCells b).map .u)), (2, .vec 49 4 (voR (cntN dj [] (l.take i.1))))]) 3 (fun i => l.length - i.1) ⟨0, by omega⟩ ?_ ?_
    · exact (Wk.cut rfl (by simp [hn, St.lp]) (by simp [wkO, St.lp, getK_cons, getK, Ob.under, D.under, under_rowsD, under_entD, hD, clCells, byCells, cntN, voR]) (by simp [wkU, St.lp, keepE, getK_cons, getK, D.under, hD, clCells, byCells, cntN, voR]) (by simp [wkE, St.lp, keepE, getK_cons, getK, hD, clCells, byCells, cntN, voR] <;> (try (intros; simp_all; done)) <;> (try (intros; omega)) <;> (try grind)))
    rintro ⟨i, hi⟩
    simp [St.lp, St.only, keepE, getK_cons, getK]
    simp only [clCells, byCells, List.map_cons, List.map_nil]
    rcases hx : l[i]? with _ | v
    · have hge : l.length ≤ i := by simpa using hx
      obtain rfl : i = l.length := by omega
      simp only [List.take_length]
      have hcl := cntN_len dj l []
      have hst1 := hst1 (by omega)
      have hst2 := hst2 (by omega)
      generalize cntN dj [] l = F at *
      have hFl := voR_len F
      repeat' (first
    | (refine H_cons ?_; simp [hx])
    | (refine H_nil ?_; simp [hx])
    | (refine V_sseq ?_; simp [hx])
    | (refine V_scond ?_; simp [hx])
    | (refine V_sblock ?_; simp [hx])
    | (refine V_exit ?_; simp [RunK])
    | fail)
      refine V_wk _ (Wk.own 19 49 4 (by decide) rfl) ?_
      simp [St.own]
      refine V_loopO (α := { i : Nat // i ≤ F.length }) [2, 3, 4, 5, 6, 11, 13] (fun i => [(19, .vec 3 i.1), (20, .u (.int .i64 i.1))]) (fun i => [(0, .box ((clCells c).map .u)), (1, .box ((byCells b).map .u)), (2, .vec 49 4 (voR F)), (3, .vec 49 4 (voR (F.reverse.take i.1)))]) 4 (fun i => F.length - i.1) ⟨0, by omega⟩ ?_ ?_
      · exact (Wk.cut rfl (by simp [hn, St.lp]) (by simp [wkO, St.lp, getK_cons, getK, Ob.under, D.under, under_rowsD, under_entD, clCells, byCells, voR]) (by simp [wkU, St.lp, keepE, getK_cons, getK, D.under, clCells, byCells, voR]) (by simp [wkE, St.lp, keepE, getK_cons, getK, clCells, byCells, voR] <;> (try (intros; simp_all; done)) <;> (try (intros; omega)) <;> (try grind)))
      rintro ⟨j, hj⟩
      simp [St.lp, St.only, keepE, getK_cons, getK]
      simp only [clCells, byCells, List.map_cons, List.map_nil]
      by_cases hjl : j < F.length
      · obtain ⟨w, hw⟩ : ∃ w, F[F.length - 1 - j]? = some w := ⟨_, List.getElem?_eq_getElem (by omega)⟩
        have hvw : (voR F)[F.length - 1 - j]? = some [.u (.int .i64 w.mark), .u (.int .i64 w.who), .u (.bool w.yes), .u (.int .i64 w.day)] := by simp [voR, hw]
        have hvg : ∀ h, (voR F)[F.length - 1 - j]'h = [.u (.int .i64 w.mark), .u (.int .i64 w.who), .u (.bool w.yes), .u (.int .i64 w.day)] := fun h => (List.getElem?_eq_some_iff.1 hvw).2
        have hbs := back_snoc hw hjl
        have htn : ((F.length : Int) - 1 - j).toNat = F.length - 1 - j := by omega
        have hlen : (F.reverse.take j).length = j := by rw [List.length_take, List.length_reverse]; omega
        have hlt2 : F.length - 1 - j < F.length := by omega
        generalize F.reverse.take j = G at *
        have hlr := voR_lenR G
        have hvl := voR_len G
        have hsn := voR_snoc G w
        repeat' (first
    | (refine H_cons ?_; simp [hjl, hvw, hvg, htn, hlen, hvl, hlr, hsn, hFl, hlt2])
    | (refine H_nil ?_; simp [hjl, hvw, hvg, htn, hlen, hvl, hlr, hsn, hFl, hlt2])
    | (refine ⟨by omega, ?_⟩)
    | (refine V_sseq ?_; simp [hjl, hvw, hvg, htn, hlen, hvl, hlr, hsn, hFl, hlt2])
    | (refine V_scond ?_; simp [hjl, hvw, hvg, htn, hlen, hvl, hlr, hsn, hFl, hlt2])
    | (refine V_sregion ?_; simp [hjl, hvw, hvg, htn, hlen, hvl, hlr, hsn, hFl, hlt2])
    | (refine V_skip ?_; simp only [RunK])
    | fail)
        refine LoopW.next ⟨j + 1, by omega⟩ (by simp; omega) ?_
        exact (Wk.ren ((fun i => if i = 3 then 5 else i)) rfl (by first | (simp [hn]; done) | (intro i hi; rw [hn] at hi; constructor <;> (try simp) <;> (try (intro _)) <;> omega)) (by simp [wkER, St.lp, keepE, getK_cons, getK, getK_del, getK_setOb, D.under, D.le, D.ren, hbs, hlen, pure_voR, under_voR, clCells, byCells] <;> (try (intros; simp_all; done)) <;> (try omega)) (by simp [wkR, St.lp, getK_cons, getK, getK_del, getK_setOb, obR, leU, pureRow, pureRows, Ob.under, D.under, D.le, D.ren, hbs, hlen, pure_voR, under_voR, clCells, byCells] <;> (try (intros; simp_all; done)) <;> (try omega)) (by simp [hbs, hlen, pure_voR, under_voR, clCells, byCells]))
      · obtain rfl : j = F.length := by omega
        rw [show F.reverse.take F.length = F.reverse from List.take_of_length_le (by simp)]
        have hRl := voR_len F.reverse
        rw [List.length_reverse] at hRl
        (refine V_frzN 2 ?_; simp [frzN, frz1, frz_env, frz_obs, St.frz, St.frzS, frzS, fv, fzVec, fzMap, fzBox, frzObS, frz_entD, frz_rowsD, del, frz, frzOb, voR_frz, voR_all, voR_len, hFl, hRl])
        unfold clU clCells byCells voU at hst0 hst1 hst2
        unfold clU clCells at hXs
        repeat' (first
    | (refine H_cons ?_; simp [hjl])
    | (refine HD4_val rfl ?_; simp [hjl])
    | (refine HD4h_val rfl ?_; simp [hjl])
    | (refine H_nil ?_; simp [hjl])
    | (refine V_sseq ?_; simp [hjl])
    | (refine V_scond ?_; simp [hjl])
    | (refine HD4_nil (hC _ (by kernel_rfl)) (hk _ ?_); clear hC hk C k; simp only [RunK])
    | (refine V_drawX rfl (by kernel_rfl) (by first | (simp [hn]; done) | (simp [hn]; omega) | fail) fun C k hC hk => ?_; simp [hjl])
    | (refine HD4_guard rfl (by simp [hjl]) (fun hc => ?_) (fun hc => ?_) <;> (try simp [hjl] at hc) <;> (try (exfalso; omega)) <;> (try simp [hjl]))
    | (refine V_ret ?_; simp only [RunK])
    | (refine V_exit ?_; simp [RunK])
    | (refine CallP.fun_ (hst0) (by first | rfl | fail) (by first | assumption | (simp; done) | fail) (by first | (simp [hjl]; done) | (simp [hjl]; rfl) | fail) (by first | (simp; done) | fail) (fun d hd => ?_); subst hd; (try simp [hjl]))
    | (refine CallV.fun_ (hst1) (by first | rfl | fail) (by first | assumption | (simp; done) | fail) (by first | (simp [hjl]; done) | (simp [hjl]; rfl) | fail) (by first | (simp; done) | fail) ?_ <;> (try simp [hjl]))
    | (refine CallV.fun_ (hst2) (by first | rfl | fail) (by first | assumption | (simp; done) | fail) (by first | (simp [hjl]; done) | (simp [hjl]; rfl) | fail) (by first | (simp; done) | fail) ?_ <;> (try simp [hjl]))
    | (refine CallV.fun_ (hXs) (by first | rfl | fail) (by first | assumption | (simp; done) | fail) (by first | (simp [hjl]; done) | (simp [hjl]; rfl) | fail) (by first | (simp; done) | fail) ?_ <;> (try simp [hjl]))
    | fail)
        refine EndW.here ?_
        (refine EndOK.val (.inr rfl) ?_; simp [resD, oneOrTup, pureD, Tryz.results9])
    · have hlt : i < l.length := (List.getElem?_eq_some_iff.1 hx).1
      have hst := cntN_snoc (members := dj) hx
      have hcl := cntN_len dj (l.take i) []
      rw [List.length_take] at hcl
      have hcl2 : (cntN dj [] (l.take i)).length ≤ 60 := by omega
      generalize cntN dj [] (l.take i) = O at *
      have hlr := voR_lenR O
      have hvl := voR_len O
      have hsn := voR_snoc O v
      repeat' (first
    | (refine H_cons ?_; simp [hx])
    | (refine H_nil ?_; simp [hx])
    | (refine V_sseq ?_; simp [hx])
    | (refine V_scond ?_; simp [hx])
    | (refine V_sblock ?_; simp [hx])
    | (refine V_skip ?_; simp only [RunK])
    | (refine ⟨?_, by omega⟩)
    | (intro hc <;> (try (exfalso; omega)))
    | fail)
      refine V_loopF (α := { k : Nat // k ≤ O.length }) [2, 3, 4, 5, 6, 11, 12, 13, 14] (fun k => [(15, .u (.bool (hasV v.who (O.take k.1)))), (16, .u (.int .i64 k.1))]) (fun k => O.length - k.1) ⟨0, by omega⟩ ?_ ?_
      · exact (Wk.cut rfl (by simp [hn, St.lp]) (by simp [wkO, St.lp, getK_cons, getK, Ob.under, D.under, under_rowsD, under_entD, under_voR, hasV_nil]) (by simp [wkU, St.lp, keepE, getK_cons, getK, D.under, under_voR, hasV_nil]) (by simp [wkE, St.lp, keepE, getK_cons, getK, under_voR, hasV_nil] <;> (try (intros; simp_all; done)) <;> (try (intros; omega)) <;> (try grind)))
      rintro ⟨k, hk1⟩
      simp [St.lp, St.only, keepE, getK_cons, getK]
      rcases hok : O[k]? with _ | w
      · have hge : O.length ≤ k := by simpa using hok
        obtain rfl : k = O.length := by omega
        rw [show O.take O.length = O from List.take_length]
        generalize hB1 : hasV v.who O = B1 at *
        repeat' (first
    | (refine H_cons ?_; simp [hx, hvl])
    | (refine H_nil ?_; simp [hx, hvl])
    | (refine V_sseq ?_; simp [hx, hvl])
    | (refine V_scond ?_; simp [hx, hvl])
    | (refine V_sblock ?_; simp [hx, hvl])
    | (refine V_exit ?_; simp [RunK])
    | fail)
        refine V_loopF (α := { m : Nat // m ≤ dj.length }) [2, 3, 4, 5, 6, 11, 12, 13, 14, 15] (fun m => [(17, .u (.bool (hasI v.who (dj.take m.1)))), (18, .u (.int .i64 m.1))]) (fun m => dj.length - m.1) ⟨0, by omega⟩ ?_ ?_
        · exact (Wk.cut rfl (by simp [hn, St.lp]) (by simp [wkO, St.lp, getK_cons, getK, Ob.under, D.under, under_rowsD, under_entD, under_voR, hasI_nil]) (by simp [wkU, St.lp, keepE, getK_cons, getK, D.under, under_voR, hasI_nil]) (by simp [wkE, St.lp, keepE, getK_cons, getK, under_voR, hasI_nil] <;> (try (intros; simp_all; done)) <;> (try (intros; omega)) <;> (try grind)))
        rintro ⟨m, hm⟩
        simp [St.lp, St.only, keepE, getK_cons, getK]
        rcases hdm : dj[m]? with _ | d
        · have hge : dj.length ≤ m := by simpa using hdm
          obtain rfl : m = dj.length := by omega
          rw [List.take_length]
          have hdl : dj.length = _ := congrArg List.length hD
          rw [hD] at hdm
          cases B1 with
          | true =>
            rw [if_pos (.inl (of_decide_eq_true hB1)), List.append_nil] at hst
            generalize hasI v.who dj = B2
            cases B2
            all_goals
              repeat' (first
    | (refine H_cons ?_; simp [hx, hvl, hdl, hdm])
    | (refine H_nil ?_; simp [hx, hvl, hdl, hdm])
    | (refine ⟨by omega, ?_⟩)
    | (refine V_sseq ?_; simp [hx, hvl, hdl, hdm])
    | (refine V_scond ?_; simp [hx, hvl, hdl, hdm])
    | (refine V_sregion ?_; simp [hx, hvl, hdl, hdm])
    | (refine V_skip ?_; simp only [RunK])
    | (refine V_exit ?_; simp [RunK])
    | fail)
              refine LoopW.next ⟨i + 1, by omega⟩ (by simp; omega) ?_
              exact (Wk.cut rfl (by simp [hn, St.lp]) (by simp [wkO, St.lp, getK_cons, getK, Ob.under, D.under, under_rowsD, under_entD, hst, under_voR, clCells, byCells]) (by simp [wkU, St.lp, keepE, getK_cons, getK, D.under, hst, under_voR, clCells, byCells]) (by simp [wkE, St.lp, keepE, getK_cons, getK, hst, under_voR, clCells, byCells] <;> (try (intros; simp_all; done)) <;> (try (intros; omega)) <;> (try grind)))
          | false =>
            by_cases e1 : v.who ∈ dj
            · rw [if_neg (fun h => by rcases h with h | h; exact of_decide_eq_false hB1 h; exact h e1)] at hst
              rw [show hasI v.who dj = true from decide_eq_true e1]
              repeat' (first
    | (refine H_cons ?_; simp [hx, hvl, hlr, hsn, hdl, hdm])
    | (refine H_nil ?_; simp [hx, hvl, hlr, hsn, hdl, hdm])
    | (refine ⟨by omega, ?_⟩)
    | (refine V_sseq ?_; simp [hx, hvl, hlr, hsn, hdl, hdm])
    | (refine V_scond ?_; simp [hx, hvl, hlr, hsn, hdl, hdm])
    | (refine V_sregion ?_; simp [hx, hvl, hlr, hsn, hdl, hdm])
    | (refine V_exit ?_; simp [RunK])
    | fail)
              refine LoopW.next ⟨i + 1, by omega⟩ (by simp; omega) ?_
              exact (Wk.ren ((fun i => if i = 2 then 4 else i)) rfl (by first | (simp [hn]; done) | (intro i hi; rw [hn] at hi; constructor <;> (try simp) <;> (try (intro _)) <;> omega)) (by simp [wkER, St.lp, keepE, getK_cons, getK, getK_del, getK_setOb, D.under, D.le, D.ren, hst, hvl, pure_voR, under_voR, clCells, byCells] <;> (try (intros; simp_all; done)) <;> (try omega)) (by simp [wkR, St.lp, getK_cons, getK, getK_del, getK_setOb, obR, leU, pureRow, pureRows, Ob.under, D.under, D.le, D.ren, hst, hvl, pure_voR, under_voR, clCells, byCells] <;> (try (intros; simp_all; done)) <;> (try omega)) (by simp [hst, hvl, pure_voR, under_voR, clCells, byCells]))
            · rw [if_pos (.inr e1), List.append_nil] at hst
              rw [show hasI v.who dj = false from decide_eq_false e1]
              repeat' (first
    | (refine H_cons ?_; simp [hx, hvl, hdl, hdm])
    | (refine H_nil ?_; simp [hx, hvl, hdl, hdm])
    | (refine ⟨by omega, ?_⟩)
    | (refine V_sseq ?_; simp [hx, hvl, hdl, hdm])
    | (refine V_scond ?_; simp [hx, hvl, hdl, hdm])
    | (refine V_sregion ?_; simp [hx, hvl, hdl, hdm])
    | (refine V_skip ?_; simp only [RunK])
    | (refine V_exit ?_; simp [RunK])
    | fail)
              refine LoopW.next ⟨i + 1, by omega⟩ (by simp; omega) ?_
              exact (Wk.cut rfl (by simp [hn, St.lp]) (by simp [wkO, St.lp, getK_cons, getK, Ob.under, D.under, under_rowsD, under_entD, hst, under_voR, clCells, byCells]) (by simp [wkU, St.lp, keepE, getK_cons, getK, D.under, hst, under_voR, clCells, byCells]) (by simp [wkE, St.lp, keepE, getK_cons, getK, hst, under_voR, clCells, byCells] <;> (try (intros; simp_all; done)) <;> (try (intros; omega)) <;> (try grind)))
        · have hlt3 : m < dj.length := (List.getElem?_eq_some_iff.1 hdm).1
          have hms := hasI_snoc v.who hdm
          have hdm := hdm
          rw [hD] at hdm
          obtain ⟨hlt4, hdg⟩ := List.getElem?_eq_some_iff.1 hdm
          cases hb : hasI v.who (dj.take m) with
          | true =>
            rw [hb] at hms
            repeat' (first
    | (refine H_cons ?_; simp [hx, hvl, hlt4, hdg, hb])
    | (refine HD4_val rfl ?_; simp [hx, hvl, hlt4, hdg, hb])
    | (refine H_nil ?_; simp [hx, hvl, hlt4, hdg, hb])
    | (refine ⟨by omega, ?_⟩)
    | (refine V_sseq ?_; simp [hx, hvl, hlt4, hdg, hb])
    | (refine V_scond ?_; simp [hx, hvl, hlt4, hdg, hb])
    | (refine HD4_nil (hC _ (by kernel_rfl)) (hk _ ?_); clear hC hk C k; simp only [RunK])
    | (refine V_drawX rfl (by kernel_rfl) (by first | (simp [hn]; done) | (simp [hn]; omega) | fail) fun C k hC hk => ?_; simp [hx, hvl, hlt4, hdg, hb])
    | (refine HD4_guard rfl (by simp [hx, hvl, hlt4, hdg, hb]) (fun hc => ?_) (fun hc => ?_) <;> (try simp [hx, hvl, hlt4, hdg, hb] at hc) <;> (try (exfalso; omega)) <;> (try simp [hx, hvl, hlt4, hdg, hb]))
    | (refine V_sregion ?_; simp [hx, hvl, hlt4, hdg, hb])
    | (refine V_skip ?_; simp only [RunK])
    | fail)
            refine LoopW.next ⟨m + 1, by omega⟩ (by simp; omega) ?_
            exact (Wk.cut rfl (by simp [hn, St.lp]) (by simp [wkO, St.lp, getK_cons, getK, Ob.under, D.under, under_rowsD, under_entD, hms, under_voR]) (by simp [wkU, St.lp, keepE, getK_cons, getK, D.under, hms, under_voR]) (by simp [wkE, St.lp, keepE, getK_cons, getK, hms, under_voR] <;> (try (intros; simp_all; done)) <;> (try (intros; omega)) <;> (try grind)))
          | false =>
            rw [hb] at hms
            repeat' (first
    | (refine H_cons ?_; simp [hx, hvl, hlt4, hdg, hb])
    | (refine HD4_val rfl ?_; simp [hx, hvl, hlt4, hdg, hb])
    | (refine HD4h_val rfl ?_; simp [hx, hvl, hlt4, hdg, hb])
    | (refine H_nil ?_; simp [hx, hvl, hlt4, hdg, hb])
    | (refine ⟨by omega, ?_⟩)
    | (refine V_sseq ?_; simp [hx, hvl, hlt4, hdg, hb])
    | (refine V_scond ?_; simp [hx, hvl, hlt4, hdg, hb])
    | (refine HD4_nil (hC _ (by kernel_rfl)) (hk _ ?_); clear hC hk C k; simp only [RunK])
    | (refine V_drawX rfl (by kernel_rfl) (by first | (simp [hn]; done) | (simp [hn]; omega) | fail) fun C k hC hk => ?_; simp [hx, hvl, hlt4, hdg, hb])
    | (refine HD4_guard rfl (by simp [hx, hvl, hlt4, hdg, hb]) (fun hc => ?_) (fun hc => ?_) <;> (try simp [hx, hvl, hlt4, hdg, hb] at hc) <;> (try (exfalso; omega)) <;> (try simp [hx, hvl, hlt4, hdg, hb]))
    | (refine V_sregion ?_; simp [hx, hvl, hlt4, hdg, hb])
    | (refine V_skip ?_; simp only [RunK])
    | fail)
            refine LoopW.next ⟨m + 1, by omega⟩ (by simp; omega) ?_
            exact (Wk.cut rfl (by simp [hn, St.lp]) (by simp [wkO, St.lp, getK_cons, getK, Ob.under, D.under, under_rowsD, under_entD, hms, under_voR]) (by simp [wkU, St.lp, keepE, getK_cons, getK, D.under, hms, under_voR]) (by simp [wkE, St.lp, keepE, getK_cons, getK, hms, under_voR] <;> (try (intros; simp_all; done)) <;> (try (intros; omega)) <;> (try grind)))
      · have hlt3 : k < O.length := (List.getElem?_eq_some_iff.1 hok).1
        have hvw : (voR O)[k]? = some [.u (.int .i64 w.mark), .u (.int .i64 w.who), .u (.bool w.yes), .u (.int .i64 w.day)] := by simp [voR, hok]
        have hms := hasV_snoc v.who hok
        have hvg : ∀ h, (voR O)[k]'h = [.u (.int .i64 w.mark), .u (.int .i64 w.who), .u (.bool w.yes), .u (.int .i64 w.day)] := fun h => (List.getElem?_eq_some_iff.1 hvw).2
        cases hb : hasV v.who (O.take k) with
        | true =>
          rw [hb] at hms
          repeat' (first
    | (refine H_cons ?_; simp [hx, hvl, hvw, hvg, hlt3, hb])
    | (refine HD4_val rfl ?_; simp [hx, hvl, hvw, hvg, hlt3, hb])
    | (refine H_nil ?_; simp [hx, hvl, hvw, hvg, hlt3, hb])
    | (refine ⟨by omega, ?_⟩)
    | (refine V_sseq ?_; simp [hx, hvl, hvw, hvg, hlt3, hb])
    | (refine V_scond ?_; simp [hx, hvl, hvw, hvg, hlt3, hb])
    | (refine HD4_nil (hC _ (by kernel_rfl)) (hk _ ?_); clear hC hk C k; simp only [RunK])
    | (refine V_drawX rfl (by kernel_rfl) (by first | (simp [hn]; done) | (simp [hn]; omega) | fail) fun C k hC hk => ?_; simp [hx, hvl, hvw, hvg, hlt3, hb])
    | (refine HD4_guard rfl (by simp [hx, hvl, hvw, hvg, hlt3, hb]) (fun hc => ?_) (fun hc => ?_) <;> (try simp [hx, hvl, hvw, hvg, hlt3, hb] at hc) <;> (try (exfalso; omega)) <;> (try simp [hx, hvl, hvw, hvg, hlt3, hb]))
    | (refine V_sregion ?_; simp [hx, hvl, hvw, hvg, hlt3, hb])
    | (refine V_skip ?_; simp only [RunK])
    | fail)
          refine LoopW.next ⟨k + 1, by omega⟩ (by simp; omega) ?_
          exact (Wk.cut rfl (by simp [hn, St.lp]) (by simp [wkO, St.lp, getK_cons, getK, Ob.under, D.under, under_rowsD, under_entD, hms, under_voR]) (by simp [wkU, St.lp, keepE, getK_cons, getK, D.under, hms, under_voR]) (by simp [wkE, St.lp, keepE, getK_cons, getK, hms, under_voR] <;> (try (intros; simp_all; done)) <;> (try (intros; omega)) <;> (try grind)))
        | false =>
          rw [hb] at hms
          repeat' (first
    | (refine H_cons ?_; simp [hx, hvl, hvw, hvg, hlt3, hb])
    | (refine HD4_val rfl ?_; simp [hx, hvl, hvw, hvg, hlt3, hb])
    | (refine HD4h_val rfl ?_; simp [hx, hvl, hvw, hvg, hlt3, hb])
    | (refine H_nil ?_; simp [hx, hvl, hvw, hvg, hlt3, hb])
    | (refine ⟨by omega, ?_⟩)
    | (refine V_sseq ?_; simp [hx, hvl, hvw, hvg, hlt3, hb])
    | (refine V_scond ?_; simp [hx, hvl, hvw, hvg, hlt3, hb])
    | (refine HD4_nil (hC _ (by kernel_rfl)) (hk _ ?_); clear hC hk C k; simp only [RunK])
    | (refine V_drawX rfl (by kernel_rfl) (by first | (simp [hn]; done) | (simp [hn]; omega) | fail) fun C k hC hk => ?_; simp [hx, hvl, hvw, hvg, hlt3, hb])
    | (refine HD4_guard rfl (by simp [hx, hvl, hvw, hvg, hlt3, hb]) (fun hc => ?_) (fun hc => ?_) <;> (try simp [hx, hvl, hvw, hvg, hlt3, hb] at hc) <;> (try (exfalso; omega)) <;> (try simp [hx, hvl, hvw, hvg, hlt3, hb]))
    | (refine V_sregion ?_; simp [hx, hvl, hvw, hvg, hlt3, hb])
    | (refine V_skip ?_; simp only [RunK])
    | fail)
          refine LoopW.next ⟨k + 1, by omega⟩ (by simp; omega) ?_
          exact (Wk.cut rfl (by simp [hn, St.lp]) (by simp [wkO, St.lp, getK_cons, getK, Ob.under, D.under, under_rowsD, under_entD, hms, under_voR]) (by simp [wkU, St.lp, keepE, getK_cons, getK, D.under, hms, under_voR]) (by simp [wkE, St.lp, keepE, getK_cons, getK, hms, under_voR] <;> (try (intros; simp_all; done)) <;> (try (intros; omega)) <;> (try grind)))
  · have ca' : (0 < c.again.length) = True := eq_true (List.length_pos_iff.2 ca)
    rw [if_neg ca] at hD
    have hcl0 : clU c = .agg (clCells c) := rfl
    unfold voU at hf
    rw [hcl0] at hf ⊢
    unfold clCells byCells at hf
    show Fun _ _ [.u (.agg _), .u (.agg _), _, .u (.sl _), _] _
    unfold clCells byCells
    (refine Fun.of_bodyW Tryz.func9 rfl (by simp) fun Γ hn => ?_); simp only [entry, List.zipIdx_cons, List.zipIdx_nil, List.map_cons, List.map_nil, Nat.zero_add, Tryz.ntmps9]
    repeat' (first
    | (refine CallP.fun_ (hf) (by first | rfl | fail) (by first | assumption | (simp; done) | fail) (by first | (simp; done) | (simp; rfl) | fail) (by first | (simp; done) | fail) (fun d hd => ?_); obtain ⟨br, rfl, hbr⟩ := hd; cases br <;> (try simp))
    | (refine H_cons ?_; simp [k1, k2, ca'])
    | (refine H_nil ?_; simp [k1, k2, ca'])
    | (refine ⟨by omega, ?_⟩)
    | (refine V_sseq ?_; simp [k1, k2, ca'])
    | (refine V_scond ?_; simp [k1, k2, ca'])
    | (refine V_sblock ?_; simp [k1, k2, ca'])
    | (refine V_sregion ?_; simp [k1, k2, ca'])
    | (refine V_ret ?_; simp only [RunK])
    | (refine V_skip ?_; simp only [RunK])
    | (refine ⟨?_, by omega⟩)
    | (refine CallP.fun_ (hs) (by first | rfl | fail) (by first | assumption | (simp; done) | fail) (by first | (simp [k1, k2, ca']; done) | (simp [k1, k2, ca']; rfl) | fail) (by first | (simp; done) | fail) (fun d hd => ?_); subst hd; (try simp [k1, k2, ca']))
    | fail)
    · refine EndW.here ?_
      (refine EndOK.val (.inr rfl) ?_; simp [resD, oneOrTup, pureD, Tryz.results9])
    have hst0 := hst0 (hbr rfl).2.2
    refine V_wk _ (Wk.own 13 49 4 (by decide) rfl) ?_
    simp [St.own]
    have hl60 := (hbr rfl).2.2
    refine V_loopO (α := { i : Nat // i ≤ l.length }) [2, 3, 4, 5, 6, 11, 12] (fun i => [(13, .vec 2 (cntN dj [] (l.take i.1)).length), (14, .u (.int .i64 i.1))]) (fun i => [(0, .box ((clCells c).map .u)), (1, .box ((byCells b).map .u)), (2, .vec 49 4 (voR (cntN dj [] (l.take i.1))))]) 3 (fun i => l.length - i.1) ⟨0, by omega⟩ ?_ ?_
    · exact (Wk.cut rfl (by simp [hn, St.lp]) (by simp [wkO, St.lp, getK_cons, getK, Ob.under, D.under, under_rowsD, under_entD, hD, clCells, byCells, cntN, voR]) (by simp [wkU, St.lp, keepE, getK_cons, getK, D.under, hD, clCells, byCells, cntN, voR]) (by simp [wkE, St.lp, keepE, getK_cons, getK, hD, clCells, byCells, cntN, voR] <;> (try (intros; simp_all; done)) <;> (try (intros; omega)) <;> (try grind)))
    rintro ⟨i, hi⟩
    simp [St.lp, St.only, keepE, getK_cons, getK]
    simp only [clCells, byCells, List.map_cons, List.map_nil]
    rcases hx : l[i]? with _ | v
    · have hge : l.length ≤ i := by simpa using hx
      obtain rfl : i = l.length := by omega
      simp only [List.take_length]
      have hcl := cntN_len dj l []
      have hst1 := hst1 (by omega)
      have hst2 := hst2 (by omega)
      generalize cntN dj [] l = F at *
      have hFl := voR_len F
      repeat' (first
    | (refine H_cons ?_; simp [hx])
    | (refine H_nil ?_; simp [hx])
    | (refine V_sseq ?_; simp [hx])
    | (refine V_scond ?_; simp [hx])
    | (refine V_sblock ?_; simp [hx])
    | (refine V_exit ?_; simp [RunK])
    | fail)
      refine V_wk _ (Wk.own 19 49 4 (by decide) rfl) ?_
      simp [St.own]
      refine V_loopO (α := { i : Nat // i ≤ F.length }) [2, 3, 4, 5, 6, 11, 13] (fun i => [(19, .vec 3 i.1), (20, .u (.int .i64 i.1))]) (fun i => [(0, .box ((clCells c).map .u)), (1, .box ((byCells b).map .u)), (2, .vec 49 4 (voR F)), (3, .vec 49 4 (voR (F.reverse.take i.1)))]) 4 (fun i => F.length - i.1) ⟨0, by omega⟩ ?_ ?_
      · exact (Wk.cut rfl (by simp [hn, St.lp]) (by simp [wkO, St.lp, getK_cons, getK, Ob.under, D.under, under_rowsD, under_entD, clCells, byCells, voR]) (by simp [wkU, St.lp, keepE, getK_cons, getK, D.under, clCells, byCells, voR]) (by simp [wkE, St.lp, keepE, getK_cons, getK, clCells, byCells, voR] <;> (try (intros; simp_all; done)) <;> (try (intros; omega)) <;> (try grind)))
      rintro ⟨j, hj⟩
      simp [St.lp, St.only, keepE, getK_cons, getK]
      simp only [clCells, byCells, List.map_cons, List.map_nil]
      by_cases hjl : j < F.length
      · obtain ⟨w, hw⟩ : ∃ w, F[F.length - 1 - j]? = some w := ⟨_, List.getElem?_eq_getElem (by omega)⟩
        have hvw : (voR F)[F.length - 1 - j]? = some [.u (.int .i64 w.mark), .u (.int .i64 w.who), .u (.bool w.yes), .u (.int .i64 w.day)] := by simp [voR, hw]
        have hvg : ∀ h, (voR F)[F.length - 1 - j]'h = [.u (.int .i64 w.mark), .u (.int .i64 w.who), .u (.bool w.yes), .u (.int .i64 w.day)] := fun h => (List.getElem?_eq_some_iff.1 hvw).2
        have hbs := back_snoc hw hjl
        have htn : ((F.length : Int) - 1 - j).toNat = F.length - 1 - j := by omega
        have hlen : (F.reverse.take j).length = j := by rw [List.length_take, List.length_reverse]; omega
        have hlt2 : F.length - 1 - j < F.length := by omega
        generalize F.reverse.take j = G at *
        have hlr := voR_lenR G
        have hvl := voR_len G
        have hsn := voR_snoc G w
        repeat' (first
    | (refine H_cons ?_; simp [hjl, hvw, hvg, htn, hlen, hvl, hlr, hsn, hFl, hlt2])
    | (refine H_nil ?_; simp [hjl, hvw, hvg, htn, hlen, hvl, hlr, hsn, hFl, hlt2])
    | (refine ⟨by omega, ?_⟩)
    | (refine V_sseq ?_; simp [hjl, hvw, hvg, htn, hlen, hvl, hlr, hsn, hFl, hlt2])
    | (refine V_scond ?_; simp [hjl, hvw, hvg, htn, hlen, hvl, hlr, hsn, hFl, hlt2])
    | (refine V_sregion ?_; simp [hjl, hvw, hvg, htn, hlen, hvl, hlr, hsn, hFl, hlt2])
    | (refine V_skip ?_; simp only [RunK])
    | fail)
        refine LoopW.next ⟨j + 1, by omega⟩ (by simp; omega) ?_
        exact (Wk.ren ((fun i => if i = 3 then 5 else i)) rfl (by first | (simp [hn]; done) | (intro i hi; rw [hn] at hi; constructor <;> (try simp) <;> (try (intro _)) <;> omega)) (by simp [wkER, St.lp, keepE, getK_cons, getK, getK_del, getK_setOb, D.under, D.le, D.ren, hbs, hlen, pure_voR, under_voR, clCells, byCells] <;> (try (intros; simp_all; done)) <;> (try omega)) (by simp [wkR, St.lp, getK_cons, getK, getK_del, getK_setOb, obR, leU, pureRow, pureRows, Ob.under, D.under, D.le, D.ren, hbs, hlen, pure_voR, under_voR, clCells, byCells] <;> (try (intros; simp_all; done)) <;> (try omega)) (by simp [hbs, hlen, pure_voR, under_voR, clCells, byCells]))
      · obtain rfl : j = F.length := by omega
        rw [show F.reverse.take F.length = F.reverse from List.take_of_length_le (by simp)]
        have hRl := voR_len F.reverse
        rw [List.length_reverse] at hRl
        (refine V_frzN 2 ?_; simp [frzN, frz1, frz_env, frz_obs, St.frz, St.frzS, frzS, fv, fzVec, fzMap, fzBox, frzObS, frz_entD, frz_rowsD, del, frz, frzOb, voR_frz, voR_all, voR_len, hFl, hRl])
        unfold clU clCells byCells voU at hst0 hst1 hst2
        unfold clU clCells at hXs
        repeat' (first
    | (refine H_cons ?_; simp [hjl])
    | (refine HD4_val rfl ?_; simp [hjl])
    | (refine HD4h_val rfl ?_; simp [hjl])
    | (refine H_nil ?_; simp [hjl])
    | (refine V_sseq ?_; simp [hjl])
    | (refine V_scond ?_; simp [hjl])
    | (refine HD4_nil (hC _ (by kernel_rfl)) (hk _ ?_); clear hC hk C k; simp only [RunK])
    | (refine V_drawX rfl (by kernel_rfl) (by first | (simp [hn]; done) | (simp [hn]; omega) | fail) fun C k hC hk => ?_; simp [hjl])
    | (refine HD4_guard rfl (by simp [hjl]) (fun hc => ?_) (fun hc => ?_) <;> (try simp [hjl] at hc) <;> (try (exfalso; omega)) <;> (try simp [hjl]))
    | (refine V_ret ?_; simp only [RunK])
    | (refine V_exit ?_; simp [RunK])
    | (refine CallP.fun_ (hst0) (by first | rfl | fail) (by first | assumption | (simp; done) | fail) (by first | (simp [hjl]; done) | (simp [hjl]; rfl) | fail) (by first | (simp; done) | fail) (fun d hd => ?_); subst hd; (try simp [hjl]))
    | (refine CallV.fun_ (hst1) (by first | rfl | fail) (by first | assumption | (simp; done) | fail) (by first | (simp [hjl]; done) | (simp [hjl]; rfl) | fail) (by first | (simp; done) | fail) ?_ <;> (try simp [hjl]))
    | (refine CallV.fun_ (hst2) (by first | rfl | fail) (by first | assumption | (simp; done) | fail) (by first | (simp [hjl]; done) | (simp [hjl]; rfl) | fail) (by first | (simp; done) | fail) ?_ <;> (try simp [hjl]))
    | (refine CallV.fun_ (hXs) (by first | rfl | fail) (by first | assumption | (simp; done) | fail) (by first | (simp [hjl]; done) | (simp [hjl]; rfl) | fail) (by first | (simp; done) | fail) ?_ <;> (try simp [hjl]))
    | fail)
        refine EndW.here ?_
        (refine EndOK.val (.inr rfl) ?_; simp [resD, oneOrTup, pureD, Tryz.results9])
    · have hlt : i < l.length := (List.getElem?_eq_some_iff.1 hx).1
      have hst := cntN_snoc (members := dj) hx
      have hcl := cntN_len dj (l.take i) []
      rw [List.length_take] at hcl
      have hcl2 : (cntN dj [] (l.take i)).length ≤ 60 := by omega
      generalize cntN dj [] (l.take i) = O at *
      have hlr := voR_lenR O
      have hvl := voR_len O
      have hsn := voR_snoc O v
      repeat' (first
    | (refine H_cons ?_; simp [hx])
    | (refine H_nil ?_; simp [hx])
    | (refine V_sseq ?_; simp [hx])
    | (refine V_scond ?_; simp [hx])
    | (refine V_sblock ?_; simp [hx])
    | (refine V_skip ?_; simp only [RunK])
    | (refine ⟨?_, by omega⟩)
    | (intro hc <;> (try (exfalso; omega)))
    | fail)
      refine V_loopF (α := { k : Nat // k ≤ O.length }) [2, 3, 4, 5, 6, 11, 12, 13, 14] (fun k => [(15, .u (.bool (hasV v.who (O.take k.1)))), (16, .u (.int .i64 k.1))]) (fun k => O.length - k.1) ⟨0, by omega⟩ ?_ ?_
      · exact (Wk.cut rfl (by simp [hn, St.lp]) (by simp [wkO, St.lp, getK_cons, getK, Ob.under, D.under, under_rowsD, under_entD, under_voR, hasV_nil]) (by simp [wkU, St.lp, keepE, getK_cons, getK, D.under, under_voR, hasV_nil]) (by simp [wkE, St.lp, keepE, getK_cons, getK, under_voR, hasV_nil] <;> (try (intros; simp_all; done)) <;> (try (intros; omega)) <;> (try grind)))
      rintro ⟨k, hk1⟩
      simp [St.lp, St.only, keepE, getK_cons, getK]
      rcases hok : O[k]? with _ | w
      · have hge : O.length ≤ k := by simpa using hok
        obtain rfl : k = O.length := by omega
        rw [show O.take O.length = O from List.take_length]
        generalize hB1 : hasV v.who O = B1 at *
        repeat' (first
    | (refine H_cons ?_; simp [hx, hvl])
    | (refine H_nil ?_; simp [hx, hvl])
    | (refine V_sseq ?_; simp [hx, hvl])
    | (refine V_scond ?_; simp [hx, hvl])
    | (refine V_sblock ?_; simp [hx, hvl])
    | (refine V_exit ?_; simp [RunK])
    | fail)
        refine V_loopF (α := { m : Nat // m ≤ dj.length }) [2, 3, 4, 5, 6, 11, 12, 13, 14, 15] (fun m => [(17, .u (.bool (hasI v.who (dj.take m.1)))), (18, .u (.int .i64 m.1))]) (fun m => dj.length - m.1) ⟨0, by omega⟩ ?_ ?_
        · exact (Wk.cut rfl (by simp [hn, St.lp]) (by simp [wkO, St.lp, getK_cons, getK, Ob.under, D.under, under_rowsD, under_entD, under_voR, hasI_nil]) (by simp [wkU, St.lp, keepE, getK_cons, getK, D.under, under_voR, hasI_nil]) (by simp [wkE, St.lp, keepE, getK_cons, getK, under_voR, hasI_nil] <;> (try (intros; simp_all; done)) <;> (try (intros; omega)) <;> (try grind)))
        rintro ⟨m, hm⟩
        simp [St.lp, St.only, keepE, getK_cons, getK]
        rcases hdm : dj[m]? with _ | d
        · have hge : dj.length ≤ m := by simpa using hdm
          obtain rfl : m = dj.length := by omega
          rw [List.take_length]
          have hdl : dj.length = _ := congrArg List.length hD
          rw [hD] at hdm
          cases B1 with
          | true =>
            rw [if_pos (.inl (of_decide_eq_true hB1)), List.append_nil] at hst
            generalize hasI v.who dj = B2
            cases B2
            all_goals
              repeat' (first
    | (refine H_cons ?_; simp [hx, hvl, hdl, hdm])
    | (refine H_nil ?_; simp [hx, hvl, hdl, hdm])
    | (refine ⟨by omega, ?_⟩)
    | (refine V_sseq ?_; simp [hx, hvl, hdl, hdm])
    | (refine V_scond ?_; simp [hx, hvl, hdl, hdm])
    | (refine V_sregion ?_; simp [hx, hvl, hdl, hdm])
    | (refine V_skip ?_; simp only [RunK])
    | (refine V_exit ?_; simp [RunK])
    | fail)
              refine LoopW.next ⟨i + 1, by omega⟩ (by simp; omega) ?_
              exact (Wk.cut rfl (by simp [hn, St.lp]) (by simp [wkO, St.lp, getK_cons, getK, Ob.under, D.under, under_rowsD, under_entD, hst, under_voR, clCells, byCells]) (by simp [wkU, St.lp, keepE, getK_cons, getK, D.under, hst, under_voR, clCells, byCells]) (by simp [wkE, St.lp, keepE, getK_cons, getK, hst, under_voR, clCells, byCells] <;> (try (intros; simp_all; done)) <;> (try (intros; omega)) <;> (try grind)))
          | false =>
            by_cases e1 : v.who ∈ dj
            · rw [if_neg (fun h => by rcases h with h | h; exact of_decide_eq_false hB1 h; exact h e1)] at hst
              rw [show hasI v.who dj = true from decide_eq_true e1]
              repeat' (first
    | (refine H_cons ?_; simp [hx, hvl, hlr, hsn, hdl, hdm])
    | (refine H_nil ?_; simp [hx, hvl, hlr, hsn, hdl, hdm])
    | (refine ⟨by omega, ?_⟩)
    | (refine V_sseq ?_; simp [hx, hvl, hlr, hsn, hdl, hdm])
    | (refine V_scond ?_; simp [hx, hvl, hlr, hsn, hdl, hdm])
    | (refine V_sregion ?_; simp [hx, hvl, hlr, hsn, hdl, hdm])
    | (refine V_exit ?_; simp [RunK])
    | fail)
              refine LoopW.next ⟨i + 1, by omega⟩ (by simp; omega) ?_
              exact (Wk.ren ((fun i => if i = 2 then 4 else i)) rfl (by first | (simp [hn]; done) | (intro i hi; rw [hn] at hi; constructor <;> (try simp) <;> (try (intro _)) <;> omega)) (by simp [wkER, St.lp, keepE, getK_cons, getK, getK_del, getK_setOb, D.under, D.le, D.ren, hst, hvl, pure_voR, under_voR, clCells, byCells] <;> (try (intros; simp_all; done)) <;> (try omega)) (by simp [wkR, St.lp, getK_cons, getK, getK_del, getK_setOb, obR, leU, pureRow, pureRows, Ob.under, D.under, D.le, D.ren, hst, hvl, pure_voR, under_voR, clCells, byCells] <;> (try (intros; simp_all; done)) <;> (try omega)) (by simp [hst, hvl, pure_voR, under_voR, clCells, byCells]))
            · rw [if_pos (.inr e1), List.append_nil] at hst
              rw [show hasI v.who dj = false from decide_eq_false e1]
              repeat' (first
    | (refine H_cons ?_; simp [hx, hvl, hdl, hdm])
    | (refine H_nil ?_; simp [hx, hvl, hdl, hdm])
    | (refine ⟨by omega, ?_⟩)
    | (refine V_sseq ?_; simp [hx, hvl, hdl, hdm])
    | (refine V_scond ?_; simp [hx, hvl, hdl, hdm])
    | (refine V_sregion ?_; simp [hx, hvl, hdl, hdm])
    | (refine V_skip ?_; simp only [RunK])
    | (refine V_exit ?_; simp [RunK])
    | fail)
              refine LoopW.next ⟨i + 1, by omega⟩ (by simp; omega) ?_
              exact (Wk.cut rfl (by simp [hn, St.lp]) (by simp [wkO, St.lp, getK_cons, getK, Ob.under, D.under, under_rowsD, under_entD, hst, under_voR, clCells, byCells]) (by simp [wkU, St.lp, keepE, getK_cons, getK, D.under, hst, under_voR, clCells, byCells]) (by simp [wkE, St.lp, keepE, getK_cons, getK, hst, under_voR, clCells, byCells] <;> (try (intros; simp_all; done)) <;> (try (intros; omega)) <;> (try grind)))
        · have hlt3 : m < dj.length := (List.getElem?_eq_some_iff.1 hdm).1
          have hms := hasI_snoc v.who hdm
          have hdm := hdm
          rw [hD] at hdm
          obtain ⟨hlt4, hdg⟩ := List.getElem?_eq_some_iff.1 hdm
          cases hb : hasI v.who (dj.take m) with
          | true =>
            rw [hb] at hms
            repeat' (first
    | (refine H_cons ?_; simp [hx, hvl, hlt4, hdg, hb])
    | (refine HD4_val rfl ?_; simp [hx, hvl, hlt4, hdg, hb])
    | (refine H_nil ?_; simp [hx, hvl, hlt4, hdg, hb])
    | (refine ⟨by omega, ?_⟩)
    | (refine V_sseq ?_; simp [hx, hvl, hlt4, hdg, hb])
    | (refine V_scond ?_; simp [hx, hvl, hlt4, hdg, hb])
    | (refine HD4_nil (hC _ (by kernel_rfl)) (hk _ ?_); clear hC hk C k; simp only [RunK])
    | (refine V_drawX rfl (by kernel_rfl) (by first | (simp [hn]; done) | (simp [hn]; omega) | fail) fun C k hC hk => ?_; simp [hx, hvl, hlt4, hdg, hb])
    | (refine HD4_guard rfl (by simp [hx, hvl, hlt4, hdg, hb]) (fun hc => ?_) (fun hc => ?_) <;> (try simp [hx, hvl, hlt4, hdg, hb] at hc) <;> (try (exfalso; omega)) <;> (try simp [hx, hvl, hlt4, hdg, hb]))
    | (refine V_sregion ?_; simp [hx, hvl, hlt4, hdg, hb])
    | (refine V_skip ?_; simp only [RunK])
    | fail)
            refine LoopW.next ⟨m + 1, by omega⟩ (by simp; omega) ?_
            exact (Wk.cut rfl (by simp [hn, St.lp]) (by simp [wkO, St.lp, getK_cons, getK, Ob.under, D.under, under_rowsD, under_entD, hms, under_voR]) (by simp [wkU, St.lp, keepE, getK_cons, getK, D.under, hms, under_voR]) (by simp [wkE, St.lp, keepE, getK_cons, getK, hms, under_voR] <;> (try (intros; simp_all; done)) <;> (try (intros; omega)) <;> (try grind)))
          | false =>
            rw [hb] at hms
            repeat' (first
    | (refine H_cons ?_; simp [hx, hvl, hlt4, hdg, hb])
    | (refine HD4_val rfl ?_; simp [hx, hvl, hlt4, hdg, hb])
    | (refine HD4h_val rfl ?_; simp [hx, hvl, hlt4, hdg, hb])
    | (refine H_nil ?_; simp [hx, hvl, hlt4, hdg, hb])
    | (refine ⟨by omega, ?_⟩)
    | (refine V_sseq ?_; simp [hx, hvl, hlt4, hdg, hb])
    | (refine V_scond ?_; simp [hx, hvl, hlt4, hdg, hb])
    | (refine HD4_nil (hC _ (by kernel_rfl)) (hk _ ?_); clear hC hk C k; simp only [RunK])
    | (refine V_drawX rfl (by kernel_rfl) (by first | (simp [hn]; done) | (simp [hn]; omega) | fail) fun C k hC hk => ?_; simp [hx, hvl, hlt4, hdg, hb])
    | (refine HD4_guard rfl (by simp [hx, hvl, hlt4, hdg, hb]) (fun hc => ?_) (fun hc => ?_) <;> (try simp [hx, hvl, hlt4, hdg, hb] at hc) <;> (try (exfalso; omega)) <;> (try simp [hx, hvl, hlt4, hdg, hb]))
    | (refine V_sregion ?_; simp [hx, hvl, hlt4, hdg, hb])
    | (refine V_skip ?_; simp only [RunK])
    | fail)
            refine LoopW.next ⟨m + 1, by omega⟩ (by simp; omega) ?_
            exact (Wk.cut rfl (by simp [hn, St.lp]) (by simp [wkO, St.lp, getK_cons, getK, Ob.under, D.under, under_rowsD, under_entD, hms, under_voR]) (by simp [wkU, St.lp, keepE, getK_cons, getK, D.under, hms, under_voR]) (by simp [wkE, St.lp, keepE, getK_cons, getK, hms, under_voR] <;> (try (intros; simp_all; done)) <;> (try (intros; omega)) <;> (try grind)))
      · have hlt3 : k < O.length := (List.getElem?_eq_some_iff.1 hok).1
        have hvw : (voR O)[k]? = some [.u (.int .i64 w.mark), .u (.int .i64 w.who), .u (.bool w.yes), .u (.int .i64 w.day)] := by simp [voR, hok]
        have hms := hasV_snoc v.who hok
        have hvg : ∀ h, (voR O)[k]'h = [.u (.int .i64 w.mark), .u (.int .i64 w.who), .u (.bool w.yes), .u (.int .i64 w.day)] := fun h => (List.getElem?_eq_some_iff.1 hvw).2
        cases hb : hasV v.who (O.take k) with
        | true =>
          rw [hb] at hms
          repeat' (first
    | (refine H_cons ?_; simp [hx, hvl, hvw, hvg, hlt3, hb])
    | (refine HD4_val rfl ?_; simp [hx, hvl, hvw, hvg, hlt3, hb])
    | (refine H_nil ?_; simp [hx, hvl, hvw, hvg, hlt3, hb])
    | (refine ⟨by omega, ?_⟩)
    | (refine V_sseq ?_; simp [hx, hvl, hvw, hvg, hlt3, hb])
    | (refine V_scond ?_; simp [hx, hvl, hvw, hvg, hlt3, hb])
    | (refine HD4_nil (hC _ (by kernel_rfl)) (hk _ ?_); clear hC hk C k; simp only [RunK])
    | (refine V_drawX rfl (by kernel_rfl) (by first | (simp [hn]; done) | (simp [hn]; omega) | fail) fun C k hC hk => ?_; simp [hx, hvl, hvw, hvg, hlt3, hb])
    | (refine HD4_guard rfl (by simp [hx, hvl, hvw, hvg, hlt3, hb]) (fun hc => ?_) (fun hc => ?_) <;> (try simp [hx, hvl, hvw, hvg, hlt3, hb] at hc) <;> (try (exfalso; omega)) <;> (try simp [hx, hvl, hvw, hvg, hlt3, hb]))
    | (refine V_sregion ?_; simp [hx, hvl, hvw, hvg, hlt3, hb])
    | (refine V_skip ?_; simp only [RunK])
    | fail)
          refine LoopW.next ⟨k + 1, by omega⟩ (by simp; omega) ?_
          exact (Wk.cut rfl (by simp [hn, St.lp]) (by simp [wkO, St.lp, getK_cons, getK, Ob.under, D.under, under_rowsD, under_entD, hms, under_voR]) (by simp [wkU, St.lp, keepE, getK_cons, getK, D.under, hms, under_voR]) (by simp [wkE, St.lp, keepE, getK_cons, getK, hms, under_voR] <;> (try (intros; simp_all; done)) <;> (try (intros; omega)) <;> (try grind)))
        | false =>
          rw [hb] at hms
          repeat' (first
    | (refine H_cons ?_; simp [hx, hvl, hvw, hvg, hlt3, hb])
    | (refine HD4_val rfl ?_; simp [hx, hvl, hvw, hvg, hlt3, hb])
    | (refine HD4h_val rfl ?_; simp [hx, hvl, hvw, hvg, hlt3, hb])
    | (refine H_nil ?_; simp [hx, hvl, hvw, hvg, hlt3, hb])
    | (refine ⟨by omega, ?_⟩)
    | (refine V_sseq ?_; simp [hx, hvl, hvw, hvg, hlt3, hb])
    | (refine V_scond ?_; simp [hx, hvl, hvw, hvg, hlt3, hb])
    | (refine HD4_nil (hC _ (by kernel_rfl)) (hk _ ?_); clear hC hk C k; simp only [RunK])
    | (refine V_drawX rfl (by kernel_rfl) (by first | (simp [hn]; done) | (simp [hn]; omega) | fail) fun C k hC hk => ?_; simp [hx, hvl, hvw, hvg, hlt3, hb])
    | (refine HD4_guard rfl (by simp [hx, hvl, hvw, hvg, hlt3, hb]) (fun hc => ?_) (fun hc => ?_) <;> (try simp [hx, hvl, hvw, hvg, hlt3, hb] at hc) <;> (try (exfalso; omega)) <;> (try simp [hx, hvl, hvw, hvg, hlt3, hb]))
    | (refine V_sregion ?_; simp [hx, hvl, hvw, hvg, hlt3, hb])
    | (refine V_skip ?_; simp only [RunK])
    | fail)
          refine LoopW.next ⟨k + 1, by omega⟩ (by simp; omega) ?_
          exact (Wk.cut rfl (by simp [hn, St.lp]) (by simp [wkO, St.lp, getK_cons, getK, Ob.under, D.under, under_rowsD, under_entD, hms, under_voR]) (by simp [wkU, St.lp, keepE, getK_cons, getK, D.under, hms, under_voR]) (by simp [wkE, St.lp, keepE, getK_cons, getK, hms, under_voR] <;> (try (intros; simp_all; done)) <;> (try (intros; omega)) <;> (try grind)))
end Go.Proofs.YtepiegcjnaohjaaGreatDoor
